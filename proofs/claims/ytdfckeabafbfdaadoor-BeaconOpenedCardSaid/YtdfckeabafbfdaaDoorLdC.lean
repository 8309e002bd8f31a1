/- The walk of BeaconOpened of the statements on package beacon. Plain theorems; no condition beyond what each states. -/
import Derived.Test.YtdfckeabafbfdaaDoorLdB
import Derived.Test.YtdfckeabafbfdaaDoorFp
namespace Go.Proofs.YtdfckeabafbfdaaDoor.Dr
open Go.RowKit

theorem bits_and1 (q : Nat) (h : q < 4294967296) : bits .and .u32 ((q : Nat) : Int) 1 = ((q % 2 : Nat) : Int) := by
  have h2 : q % 2 < 2 := Nat.mod_lt _ (by omega)
  have h1 : (BitVec.ofInt 32 ((q : Nat) : Int)).toNat = q := by
    rw [BitVec.ofInt_natCast, BitVec.toNat_ofNat]; exact Nat.mod_eq_of_lt (by omega)
  have h3 : (BitVec.ofInt 32 1).toNat = 1 := by decide
  show IntKind.u32.wrap ((BitVec.ofInt 32 ((q : Nat) : Int) &&& BitVec.ofInt 32 1).toNat : Int) = _
  rw [BitVec.toNat_and, h1, h3, Nat.and_one_is_mod, IntKind.wrap_u32]
  omega
def bitX (x j : Nat) : Bool := x / 2 ^ j % 2 == 1
def plJ (l : List (List UInt8)) (j : Nat) : PairM := ⟨(j : Int), commitM j (l.getD j [])⟩
def plK (l : List (List UInt8)) (i : Nat) : List PairM := (List.range i).map (plJ l)
def rvK (l : List (List UInt8)) (x i : Nat) : List PairM := ((List.range i).filter (bitX x)).map (fun (j : Nat) => ⟨(j : Int), l.getD j []⟩)
def wantK (x i : Nat) : List Int := ((List.range i).filter (fun (j : Nat) => !bitX x j)).map (fun (j : Nat) => (j : Int))
theorem plK_snoc (l : List (List UInt8)) (i : Nat) : plK l (i + 1) = plK l i ++ [plJ l i] := by simp [plK, List.range_succ]
theorem rvK_snoc (l : List (List UInt8)) (x i : Nat) : rvK l x (i + 1) = rvK l x i ++ (if bitX x i then [⟨(i : Int), l.getD i []⟩] else []) := by
  unfold rvK
  rw [List.range_succ, List.filter_append, List.map_append]
  congr 1
  cases h : bitX x i <;> simp [h]
theorem wantK_snoc (x i : Nat) : wantK x (i + 1) = wantK x i ++ (if bitX x i then [] else [(i : Int)]) := by
  unfold wantK
  rw [List.range_succ, List.filter_append, List.map_append]
  congr 1
  cases h : bitX x i <;> simp [h]
theorem rise_range (i : Nat) (hi : i ≤ 24) : Rise ((List.range i).map (fun j => ((j : Nat) : Int))) := by
  refine ⟨?_, fun y hy => ?_⟩
  · rw [List.pairwise_map]
    exact List.pairwise_lt_range.imp (fun h => by omega)
  · obtain ⟨j, hj, rfl⟩ := List.mem_map.1 hy
    have := List.mem_range.1 hj
    omega
theorem rise_sub {l l' : List Int} (h : Rise l) (hs : l'.Sublist l) : Rise l' := ⟨h.1.sublist hs, fun y hy => h.2 y (hs.subset hy)⟩
theorem plK_rise (l : List (List UInt8)) {i : Nat} (hi : i ≤ 24) : Rise (offs (plK l i)) := by
  have e : offs (plK l i) = (List.range i).map (fun j => ((j : Nat) : Int)) := by simp [offs, plK, plJ, Function.comp_def]
  rw [e]; exact rise_range i hi
theorem rvK_rise (l : List (List UInt8)) (x : Nat) {i : Nat} (hi : i ≤ 24) : Rise (offs (rvK l x i)) := by
  have e : offs (rvK l x i) = ((List.range i).filter (bitX x)).map (fun j => ((j : Nat) : Int)) := by simp [offs, rvK, Function.comp_def]
  rw [e]
  exact rise_sub (rise_range i hi) (List.Sublist.map _ List.filter_sublist)
theorem rvK_look (l : List (List UInt8)) (x i j : Nat) : lookM (rvK l x i) (j : Int) = if j < i ∧ bitX x j = true then some (l.getD j []) else none := by
  induction i with
  | zero => simp [rvK, lookM]
  | succ i ih =>
    rw [rvK_snoc]
    by_cases hji : j = i
    · subst hji
      by_cases hb : bitX x j = true
      · rw [if_pos hb, lookM_snoc, ih, if_neg (fun h => by omega)]
        simp [hb]
      · rw [if_neg hb, List.append_nil, ih, if_neg (fun h => hb h.2), if_neg (fun h => hb h.2)]
    · have e : (j < i + 1 ∧ bitX x j = true) ↔ (j < i ∧ bitX x j = true) := ⟨fun h => ⟨by omega, h.2⟩, fun h => ⟨by omega, h.2⟩⟩
      have h1 : ¬ ((i : Int) = (j : Int)) := by omega
      by_cases hb : bitX x i = true
      · rw [if_pos hb, lookM_snoc, ih]
        by_cases h2 : j < i ∧ bitX x j = true
        · rw [if_pos h2, if_pos (e.2 h2)]
        · rw [if_neg h2, if_neg (fun h => h2 (e.1 h))]
          show (if ((i : Nat) : Int) = (j : Int) then _ else none) = _
          rw [if_neg h1]
      · rw [if_neg hb, List.append_nil, ih]
        by_cases h2 : j < i ∧ bitX x j = true
        · rw [if_pos h2, if_pos (e.2 h2)]
        · rw [if_neg h2, if_neg (fun h => h2 (e.1 h))]
theorem opened_miss (l : List (List UInt8)) (x n : Nat) : missM (plK l n) (rvK l x n) = wantK x n := by
  unfold missM plK wantK
  rw [List.filter_map, List.map_map]
  have h : (List.range n).filter ((fun p => !opensM (rvK l x n) p) ∘ plJ l) = (List.range n).filter (fun j => !bitX x j) := by
    refine List.filter_congr fun j hj => ?_
    have hj := List.mem_range.1 hj
    show (!opensM (rvK l x n) (plJ l j)) = _
    unfold opensM
    show (!(match lookM (rvK l x n) ((j : Nat) : Int) with | some v => commitM ((j : Nat) : Int) v == (plJ l j).dig | none => false)) = _
    rw [rvK_look]
    cases hb : bitX x j
    · simp
    · simp [hj, plJ]
  rw [h]
  rfl
theorem info46i : ∃ i : TypeInfo, Tryd.prog.info? 46 = some i ∧ i.zero = some (.agg #[.int .i64 0, .int .u8 0, .int .u8 0, .int .u8 0, .int .u8 0, .int .u8 0, .int .u8 0, .int .u8 0, .int .u8 0, .int .u8 0, .int .u8 0, .int .u8 0, .int .u8 0, .int .u8 0, .int .u8 0, .int .u8 0, .int .u8 0, .int .u8 0, .int .u8 0, .int .u8 0, .int .u8 0, .int .u8 0, .int .u8 0, .int .u8 0, .int .u8 0, .int .u8 0, .int .u8 0, .int .u8 0, .int .u8 0, .int .u8 0, .int .u8 0, .int .u8 0, .int .u8 0]) ∧ i.size = 33 ∧ i.bytes ≤ 100 := by
  have h : (Tryd.prog.info? 46).map (fun i => (i.zero, i.size, decide (i.bytes ≤ 100))) = some (some (.agg #[.int .i64 0, .int .u8 0, .int .u8 0, .int .u8 0, .int .u8 0, .int .u8 0, .int .u8 0, .int .u8 0, .int .u8 0, .int .u8 0, .int .u8 0, .int .u8 0, .int .u8 0, .int .u8 0, .int .u8 0, .int .u8 0, .int .u8 0, .int .u8 0, .int .u8 0, .int .u8 0, .int .u8 0, .int .u8 0, .int .u8 0, .int .u8 0, .int .u8 0, .int .u8 0, .int .u8 0, .int .u8 0, .int .u8 0, .int .u8 0, .int .u8 0, .int .u8 0, .int .u8 0]), 33, true) := by kernel_rfl
  cases hq : Tryd.prog.info? 46 with
  | none => rw [hq] at h; cases h
  | some i => rw [hq] at h; simp only [Option.map_some, Option.some.injEq, Prod.mk.injEq, decide_eq_true_eq] at h; exact ⟨i, rfl, h.1, h.2.1, h.2.2⟩
theorem info59i : ∃ i : TypeInfo, Tryd.prog.info? 59 = some i ∧ i.zero = some (.agg #[.int .i64 0, .int .u8 0, .int .u8 0, .int .u8 0, .int .u8 0, .int .u8 0, .int .u8 0, .int .u8 0, .int .u8 0, .int .u8 0, .int .u8 0, .int .u8 0, .int .u8 0, .int .u8 0, .int .u8 0, .int .u8 0, .int .u8 0, .int .u8 0, .int .u8 0, .int .u8 0, .int .u8 0, .int .u8 0, .int .u8 0, .int .u8 0, .int .u8 0, .int .u8 0, .int .u8 0, .int .u8 0, .int .u8 0, .int .u8 0, .int .u8 0, .int .u8 0, .int .u8 0]) ∧ i.size = 33 ∧ i.bytes ≤ 100 := by
  have h : (Tryd.prog.info? 59).map (fun i => (i.zero, i.size, decide (i.bytes ≤ 100))) = some (some (.agg #[.int .i64 0, .int .u8 0, .int .u8 0, .int .u8 0, .int .u8 0, .int .u8 0, .int .u8 0, .int .u8 0, .int .u8 0, .int .u8 0, .int .u8 0, .int .u8 0, .int .u8 0, .int .u8 0, .int .u8 0, .int .u8 0, .int .u8 0, .int .u8 0, .int .u8 0, .int .u8 0, .int .u8 0, .int .u8 0, .int .u8 0, .int .u8 0, .int .u8 0, .int .u8 0, .int .u8 0, .int .u8 0, .int .u8 0, .int .u8 0, .int .u8 0, .int .u8 0, .int .u8 0]), 33, true) := by kernel_rfl
  cases hq : Tryd.prog.info? 59 with
  | none => rw [hq] at h; cases h
  | some i => rw [hq] at h; simp only [Option.map_some, Option.some.injEq, Prod.mk.injEq, decide_eq_true_eq] at h; exact ⟨i, rfl, h.1, h.2.1, h.2.2⟩
/-- A row of pledges, or of reveals, of the call's own. -/
def PairsAt (B : Nat) (t : TypeId) (W : World) (va : Option Addr) (k vc : Nat) (l : List PairM) : Prop := ∃ cells, W.ownsRow B t 33 (.slice va k vc) k cells ∧ l.length = k ∧ ∀ w0, Flat 33 IsPair w0 cells l
theorem PairsAt.sl {B : Nat} {t : TypeId} {W : World} {va : Option Addr} {k vc : Nat} {l : List PairM} (h : PairsAt B t W va k vc l) : k ≤ vc ∧ Sl 33 IsPair W va k l := by
  obtain ⟨cells, h1, h2, h3⟩ := h
  exact sl_of_owns (by decide) h1 l h2 (h3 W)
theorem PairsAt.snoc {B : Nat} {t : TypeId} {W' : World} {va' : Option Addr} {k vc' : Nat} {l : List PairM} {cells : List Value} {p : PairM} (hp : p.dig.length = 32) (hi : I64 p.office) (hl : l.length = k) (hf : ∀ w0, Flat 33 IsPair w0 cells l) (ho : W'.ownsRow B t 33 (.slice va' (k + 1) vc') (k + 1) (cells ++ pairC p)) : PairsAt B t W' va' (k + 1) vc' (l ++ [p]) :=
  ⟨_, ho, by simp [hl], fun w0 => (hf w0).snoc (pairC_len hp) ⟨rfl, hp, hi⟩⟩
theorem PairsAt.nil (B : Nat) (t : TypeId) (W : World) : PairsAt B t W none 0 0 [] := ⟨[], World.ownsRow_nil _ _ _ _, rfl, fun _ => by simp [Flat]⟩
theorem PairsAt.own {B : Nat} {t : TypeId} {W W' : World} {va : Option Addr} {k vc : Nat} {l : List PairM} (h : PairsAt B t W va k vc l) (ho : ∀ cells, W.ownsRow B t 33 (.slice va k vc) k cells → W'.ownsRow B t 33 (.slice va k vc) k cells) : PairsAt B t W' va k vc l := by
  obtain ⟨cells, h1, h2, h3⟩ := h
  exact ⟨cells, ho _ h1, h2, h3⟩
theorem pairC_ones {p : PairM} : ∀ u ∈ pairC p, u.oneCell' = true := by
  have h := pairC_one p
  simp only [List.all_toArray] at h
  exact List.all_eq_true.1 h
theorem dig_at {w : World} {a : Option Addr} {n : Nat} {l : List (List UInt8)} (h : Sl 32 IsDig w a n l) {k : Nat} (hk : k < n) :
    ∃ x b off, l[k]? = some x ∧ a = some ⟨b, off, none⟩ ∧ x.length = 32 ∧ w.rangeAt b (off + k * 32) (byteVals x) := by
  obtain ⟨hl, h⟩ := h
  obtain ⟨x, hx⟩ := getElem?_of_lt hl hk
  rcases h with h | ⟨b, off, ha, h⟩
  · omega
  · obtain ⟨vs, _, ⟨rfl, hp⟩, h3⟩ := h k x hx
    exact ⟨x, b, off, hx, ha, hp, fun j v hv => h3 j v hv⟩

set_option maxRecDepth 100000 in
set_option maxHeartbeats 8000000 in
theorem opened_walk (a : Option Addr) (n c : Nat) (l : List (List UInt8)) (x : Nat) (w : World) (hi : Init w) (_hnc : n ≤ c) (h : Sl 32 IsDig w a n l) (hx : x < 4294967296) :
    Calls Tryd.prog 12 #[.slice a n c, .int .u32 x] w fun e w' => e = .returned (.bool true) ∧ Below w.heap.size w w' := by
  have HI := hide hi
  have H := hide h
  have HX32 := hide hx
  clear hi h hx
  go_enter Tryd.func12, Tryd.ntmps12
  go_wp2_with fail
  refine (bsane_any w HI.out).mono ?_
  rintro e w1 ⟨rfl, hB1⟩
  by_cases hn : (24 : Int) < (n : Int)
  · go_wp2_with fail
    go_ret
    exact ⟨rfl, hB1⟩
  obtain ⟨i46, hi46, hz46, hs46, hb46⟩ := info46i
  obtain ⟨i59, hi59, hz59, hs59, hb59⟩ := info59i
  obtain ⟨i3, hi3, hz3, hs3, hb3⟩ := info3i
  have HB46 := hide hb46
  have HB59 := hide hb59
  have HN : Hid (n ≤ 24) := by show _ ≤ _; omega
  obtain ⟨B, hB⟩ : ∃ B, B = w1.heap.size := ⟨_, rfl⟩
  have HBE := hide hB
  clear hb46 hb59 hB
  go_wp2_with fail
  clear hn
  go_loopw [5, 6, 7, 22] (fun s5 s6 s7 s22 wr => ∃ (i q r : Nat) (pa ma ua : Option Addr) (pc mc uc : Nat), i ≤ n ∧ s22 = .int .i64 i ∧ s5 = .slice pa i pc ∧ s6 = .slice ma q mc ∧ s7 = .slice ua r uc ∧ Below w1.heap.size w1 wr ∧ PairsAt B 46 wr pa i pc (plK l i) ∧ PairsAt B 59 wr ma q mc (rvK l x i) ∧ MissAt B wr ua r uc (wantK x i)) (fun _ _ _ s22 _ => n - (intOf s22).toNat)
  case atStart => exact ⟨0, 0, 0, none, none, none, 0, 0, 0, Nat.zero_le _, rfl, rfl, rfl, rfl, Below.refl _ _, PairsAt.nil _ _ _, PairsAt.nil _ _ _, World.ownsRow_nil _ _ _ _, rfl⟩
  case round =>
    obtain ⟨i, q, r, pa, ma, ua, pc, mc, uc, hin, rfl, rfl, rfl, rfl, hB, hpl, hrv, hwa⟩ := hrel
    have HB := hide hB
    have HPL := hide hpl
    have HRV := hide hrv
    have HWA := hide hwa
    have HSZ : Hid (B ≤ wr.heap.size) := by have := hB.size; have := HBE.out; show _ ≤ _; omega
    clear hB hpl hrv hwa
    by_cases hlt : i < n
    · have hi24 : i < 24 := by have := HN.out; omega
      obtain ⟨d, b, off, hd, rfl, hdl, hra⟩ := dig_at H.out hlt
      have HGD : Hid (l.getD i [] = d) := by rw [Hid, List.getD_eq_getElem?_getD, hd]; rfl
      obtain ⟨Dv, hD, hdv, hiv, ho, hs⟩ := digV_parts d hdl
      have HD := hide hD
      have HDV := hide hdv
      have HIV := hide hiv
      have HOV := hide ho
      have HSV := hide hs
      have HDL := hide hdl
      have HI35 : Hid ((Tryd.prog.info? 35).map (·.size) = some (byteVals d).length) := by rw [Hid, byteVals_length, hdl]; exact info35
      have HRA : Hid (wr.rangeAt b (off + i * 32) (byteVals d)) := hide (rangeAt_below (hB1.trans (HB.out.mono hB1.size)) hra)
      have k0 : (0 : Int) ≤ (i : Int) := by omega
      have k1 : (i : Int) < (n : Int) := by omega
      clear hD hdv hiv ho hs hdl hra hd
      go_upto_region 11 with (first | (refine wpList_load_mid rfl 35 (.tmp 25) rfl b (off + i * 32) ?e1 (byteVals d) _ HRA.out Tryd.underlying35 rfl HI35.out ?_; (case e1 => rfl); rw [← HD.out]) | (refine wpList_store_row rfl 35 (.tmp 9) (.tmp 26) rfl wr.heap.size Dv ?e2 ?e3 35 #[.int .u8 0, .int .u8 0, .int .u8 0, .int .u8 0, .int .u8 0, .int .u8 0, .int .u8 0, .int .u8 0, .int .u8 0, .int .u8 0, .int .u8 0, .int .u8 0, .int .u8 0, .int .u8 0, .int .u8 0, .int .u8 0, .int .u8 0, .int .u8 0, .int .u8 0, .int .u8 0, .int .u8 0, .int .u8 0, .int .u8 0, .int .u8 0, .int .u8 0, .int .u8 0, .int .u8 0, .int .u8 0, .int .u8 0, .int .u8 0, .int .u8 0, .int .u8 0] (heap_alloc_new wr _) HIV.out ?e4 HOV.out ?_; (case e2 => rfl); (case e3 => rfl); (case e4 => exact HSV.out.symm)))
      have hx9 : ((wr.alloc (.cells #[.int .u8 0, .int .u8 0, .int .u8 0, .int .u8 0, .int .u8 0, .int .u8 0, .int .u8 0, .int .u8 0, .int .u8 0, .int .u8 0, .int .u8 0, .int .u8 0, .int .u8 0, .int .u8 0, .int .u8 0, .int .u8 0, .int .u8 0, .int .u8 0, .int .u8 0, .int .u8 0, .int .u8 0, .int .u8 0, .int .u8 0, .int .u8 0, .int .u8 0, .int .u8 0, .int .u8 0, .int .u8 0, .int .u8 0, .int .u8 0, .int .u8 0, .int .u8 0] 35)).setRow wr.heap.size Dv).heap[wr.heap.size]? = some (.cells Dv 35 (0, 0)) := setRow_heap _ _ _ _ _ _ (heap_alloc_new wr _)
      have hS5 : Below wr.heap.size wr ((wr.alloc (.cells #[.int .u8 0, .int .u8 0, .int .u8 0, .int .u8 0, .int .u8 0, .int .u8 0, .int .u8 0, .int .u8 0, .int .u8 0, .int .u8 0, .int .u8 0, .int .u8 0, .int .u8 0, .int .u8 0, .int .u8 0, .int .u8 0, .int .u8 0, .int .u8 0, .int .u8 0, .int .u8 0, .int .u8 0, .int .u8 0, .int .u8 0, .int .u8 0, .int .u8 0, .int .u8 0, .int .u8 0, .int .u8 0, .int .u8 0, .int .u8 0, .int .u8 0, .int .u8 0] 35)).setRow wr.heap.size Dv) := below_newRow _ _ _
      generalize (wr.alloc (.cells #[.int .u8 0, .int .u8 0, .int .u8 0, .int .u8 0, .int .u8 0, .int .u8 0, .int .u8 0, .int .u8 0, .int .u8 0, .int .u8 0, .int .u8 0, .int .u8 0, .int .u8 0, .int .u8 0, .int .u8 0, .int .u8 0, .int .u8 0, .int .u8 0, .int .u8 0, .int .u8 0, .int .u8 0, .int .u8 0, .int .u8 0, .int .u8 0, .int .u8 0, .int .u8 0, .int .u8 0, .int .u8 0, .int .u8 0, .int .u8 0, .int .u8 0, .int .u8 0] 35)).setRow wr.heap.size Dv = w5 at *
      obtain ⟨X9, hX9⟩ : ∃ X, X = wr.heap.size := ⟨_, rfl⟩
      rw [← hX9] at hx9 ⊢
      have HX9 := hide hx9
      have hI64 : I64 (i : Int) := i64_of (by omega) (by omega)
      obtain ⟨pm, hpm⟩ : ∃ q : PairM, q = ⟨(i : Int), commitM i d⟩ := ⟨_, rfl⟩
      have hmk : makeM (i : Int) d = (pm, 0) := by rw [hpm]; unfold makeM; rw [if_neg (by omega)]
      have HMK := hide (make_any i d w5 hI64 HDL.out (HI.out.below (hB1.trans ((HB.out.trans (hS5.mono HB.out.size)).mono hB1.size))))
      rw [hmk, HDV.out] at HMK
      have hpl2 : pm.dig.length = 32 := by rw [hpm]; exact commitM_len _ _
      obtain ⟨PA, hPA, hpi, hps, hpo⟩ := pair_parts pm hpl2
      rw [show (pairC pm).toArray = PA from hPA.symm] at HMK
      have HPA := hide hPA
      have HPI := hide hpi
      have HPS := hide hps
      have HPO := hide hpo
      have HPLN := hide hpl2
      have HPM : Hid (plJ l i = pm) := by rw [Hid, hpm, plJ, HGD.out]
      have HPI64 : Hid (I64 pm.office) := by rw [Hid, hpm]; exact hI64
      have HS5 := hide hS5
      clear hX9 hx9 hI64 hmk hpm hpl2 hPA hpi hps hpo hS5 HRA k0 k1
      go_wp2_with (refine wpList_load_row rfl 35 (.tmp 9) rfl X9 ?e1 35 Dv (0, 0) _ HX9.out Tryd.underlying35 rfl HIV.out ?_; (case e1 => rfl))
      refine HMK.out.mono ?_
      rintro e w6 ⟨rfl, hS6⟩
      have HX9b := hide ((hS6.block _ (lt_of_block HX9.out)).trans HX9.out)
      have HS6 : Hid (Below wr.heap.size wr w6) := HS5.out.trans (hS6.mono HS5.out.size)
      clear hS6 HMK HX9 HS5
      go_upto_region 12 with (refine wpList_store_row rfl 46 (.tmp 10) (.tmp 31) rfl w6.heap.size PA ?e2 ?e3 46 #[.int .i64 0, .int .u8 0, .int .u8 0, .int .u8 0, .int .u8 0, .int .u8 0, .int .u8 0, .int .u8 0, .int .u8 0, .int .u8 0, .int .u8 0, .int .u8 0, .int .u8 0, .int .u8 0, .int .u8 0, .int .u8 0, .int .u8 0, .int .u8 0, .int .u8 0, .int .u8 0, .int .u8 0, .int .u8 0, .int .u8 0, .int .u8 0, .int .u8 0, .int .u8 0, .int .u8 0, .int .u8 0, .int .u8 0, .int .u8 0, .int .u8 0, .int .u8 0, .int .u8 0] (heap_alloc_new w6 _) HPI.out ?e4 HPO.out ?_; (case e2 => rfl); (case e3 => rfl); (case e4 => exact HPS.out))
      have hx10 : ((w6.alloc (.cells #[.int .i64 0, .int .u8 0, .int .u8 0, .int .u8 0, .int .u8 0, .int .u8 0, .int .u8 0, .int .u8 0, .int .u8 0, .int .u8 0, .int .u8 0, .int .u8 0, .int .u8 0, .int .u8 0, .int .u8 0, .int .u8 0, .int .u8 0, .int .u8 0, .int .u8 0, .int .u8 0, .int .u8 0, .int .u8 0, .int .u8 0, .int .u8 0, .int .u8 0, .int .u8 0, .int .u8 0, .int .u8 0, .int .u8 0, .int .u8 0, .int .u8 0, .int .u8 0, .int .u8 0] 46)).setRow w6.heap.size PA).heap[w6.heap.size]? = some (.cells PA 46 (0, 0)) := setRow_heap _ _ _ _ _ _ (heap_alloc_new w6 _)
      have hS7 : Below w6.heap.size w6 ((w6.alloc (.cells #[.int .i64 0, .int .u8 0, .int .u8 0, .int .u8 0, .int .u8 0, .int .u8 0, .int .u8 0, .int .u8 0, .int .u8 0, .int .u8 0, .int .u8 0, .int .u8 0, .int .u8 0, .int .u8 0, .int .u8 0, .int .u8 0, .int .u8 0, .int .u8 0, .int .u8 0, .int .u8 0, .int .u8 0, .int .u8 0, .int .u8 0, .int .u8 0, .int .u8 0, .int .u8 0, .int .u8 0, .int .u8 0, .int .u8 0, .int .u8 0, .int .u8 0, .int .u8 0, .int .u8 0] 46)).setRow w6.heap.size PA) := below_newRow _ _ _
      generalize (w6.alloc (.cells #[.int .i64 0, .int .u8 0, .int .u8 0, .int .u8 0, .int .u8 0, .int .u8 0, .int .u8 0, .int .u8 0, .int .u8 0, .int .u8 0, .int .u8 0, .int .u8 0, .int .u8 0, .int .u8 0, .int .u8 0, .int .u8 0, .int .u8 0, .int .u8 0, .int .u8 0, .int .u8 0, .int .u8 0, .int .u8 0, .int .u8 0, .int .u8 0, .int .u8 0, .int .u8 0, .int .u8 0, .int .u8 0, .int .u8 0, .int .u8 0, .int .u8 0, .int .u8 0, .int .u8 0] 46)).setRow w6.heap.size PA = w7 at *
      obtain ⟨X10, hX10⟩ : ∃ X, X = w6.heap.size := ⟨_, rfl⟩
      rw [← hX10] at hx10 ⊢
      have HX10 := hide hx10
      have HX9c := hide ((hS7.block _ (lt_of_block HX9b.out)).trans HX9b.out)
      have HS7 : Hid (Below wr.heap.size wr w7) := HS6.out.trans (hS7.mono HS6.out.size)
      obtain ⟨pcells, hpo1, hpo2, hpo3⟩ := HPL.out
      have HPO1 := hide (own_below hpo1 HS7.out)
      have HPO2 := hide hpo2
      have HPO3 := hide hpo3
      have HRV7 := hide (HRV.out.own (fun cells hc => own_below hc HS7.out))
      have HWA7 := hide (own_below HWA.out.1 HS7.out)
      have hB7 : B ≤ w7.heap.size := Nat.le_trans HSZ.out HS7.out.size
      have HBY46 : Hid ((i + 1) * i46.bytes ≤ 140737488355328) := by have := Nat.mul_le_mul (show i + 1 ≤ 25 by omega) HB46.out; show _ ≤ _; omega
      clear hX10 hx10 hS7 HX9b HS6 hpo1 hpo2 hpo3
      go_upto_region 14 with (fail)
      go_upto_region 15 with (first
        | (refine wpList_load_row rfl 46 (.tmp 10) rfl X10 ?e1 46 PA (0, 0) _ HX10.out Tryd.underlying46 rfl HPI.out ?_; (case e1 => rfl))
        | (refine wpList_runw (.slice (some ⟨w7.heap.size, 0, none⟩) 1 1) rfl (run_op_slice1 43 46 (.inl ⟨rfl, rfl⟩) (.tmp 36) rfl pm HPLN.out (congrArg Value.agg HPA.out)) ?_; simp only [Act.put, List.setIfInBounds_toArray, List.set_cons_succ, List.set_cons_zero])
        | (at_builtin; refine wpList_append_own_sl rfl (.tmp 35) (.tmp 37) 43 rfl B 46 i46 (.agg #[.int .i64 0, .int .u8 0, .int .u8 0, .int .u8 0, .int .u8 0, .int .u8 0, .int .u8 0, .int .u8 0, .int .u8 0, .int .u8 0, .int .u8 0, .int .u8 0, .int .u8 0, .int .u8 0, .int .u8 0, .int .u8 0, .int .u8 0, .int .u8 0, .int .u8 0, .int .u8 0, .int .u8 0, .int .u8 0, .int .u8 0, .int .u8 0, .int .u8 0, .int .u8 0, .int .u8 0, .int .u8 0, .int .u8 0, .int .u8 0, .int .u8 0, .int .u8 0, .int .u8 0]) 33 i46.bytes Tryd.underlying43 hi46 hz46 hs46 rfl rfl (by decide) (.slice pa i pc) i pcells rfl (HPO1.out.alloc _) (some ⟨w7.heap.size, 0, none⟩) 1 1 (pairC pm) rfl (by rw [pairC_len HPLN.out]) (fun h => by cases h) (fun ad had j q hq => by cases had; rw [Addr.add_lit, Nat.zero_add, cell_new _ _ rfl]; simpa using hq) pairC_ones (by unfold maxLen; omega) HBY46.out (by simp; omega) ?_; intro pa9 pc9 w9 hown9 hgrow9))
      have hal : Below w7.heap.size w7 (w7.alloc (.cells (pairC pm).toArray 46)) := (Below.refl _ w7).alloc (Nat.le_refl _) _
      have hPL9 : PairsAt B 46 w9 pa9 (i + 1) pc9 (plK l (i + 1)) := by rw [plK_snoc, HPM.out]; exact PairsAt.snoc HPLN.out HPI64.out HPO2.out HPO3.out hown9
      have hRV9 := HRV7.out.own (fun cells hc => ((hc.alloc _).kept hgrow9 (own_apart hc HPO1.out (by decide)) : w9.ownsRow B 59 33 (.slice ma q mc) q cells))
      have hWA9 : w9.ownsRow B 3 1 (.slice ua r uc) r ((wantK x i).map (.int .i64)) := (HWA7.out.alloc _).kept hgrow9 (own_apart HWA7.out HPO1.out (by decide))
      have hB9 : Below w1.heap.size w1 w9 := (((HB.out.trans (HS7.out.mono HB.out.size)).trans (hal.mono (Nat.le_trans HB.out.size HS7.out.size))).grown hgrow9 (by have := HBE.out; have := hal.size; omega) (fun g hg => by have := own_ge HPO1.out g hg; have := HBE.out; omega))
      have hX9 : w9.heap[X9]? = some (.cells Dv 35 (0, 0)) := (hgrow9.block X9 (Nat.lt_of_lt_of_le (lt_of_block HX9c.out) hal.size) (fun e1 => by
        obtain ⟨cs, fr, e2⟩ := own_type HPO1.out e1.symm
        rw [HX9c.out] at e2; cases e2)).trans ((hal.block X9 (lt_of_block HX9c.out)).trans HX9c.out)
      have hsz9 : B ≤ w9.heap.size := Nat.le_trans (Nat.le_trans hB7 hal.size) hgrow9.size
      have HPL9 := hide hPL9
      have HRV9 := hide hRV9
      have HWA9 := hide hWA9
      have HB9 := hide hB9
      have HX99 := hide hX9
      have HSZ9 := hide hsz9
      clear hal hPL9 hRV9 hWA9 hB9 hX9 hsz9 hown9 hgrow9 HX9c HX10 HPO1 HRV7 HWA7 HRV HWA HPL hB7
      have e0 : (0 : Int) ≤ (i : Int) := by omega
      have e32 : (i : Int) ≤ 32 := by omega
      have hq1 : q ≤ 24 := by
        obtain ⟨cells, h1, h2, h3⟩ := HRV9.out
        have : (rvK l x i).length ≤ i := by unfold rvK; rw [List.length_map]; exact Nat.le_trans (List.length_filter_le _ _) (by simp)
        omega
      have hr1 : r ≤ 24 := by
        have h1 := HWA9.out.1
        have : (wantK x i).length ≤ i := by unfold wantK; rw [List.length_map]; exact Nat.le_trans (List.length_filter_le _ _) (by simp)
        simp at h1
        omega
      have hbits : bits .and .u32 ((x : Int) / 2 ^ i) 1 = ((x / 2 ^ i % 2 : Nat) : Int) := by
        have h1 : x / 2 ^ i < 4294967296 := Nat.lt_of_le_of_lt (Nat.div_le_self _ _) HX32.out
        rw [← bits_and1 _ h1]
        congr 1
      have hrvs := rvK_snoc l x i
      have hwas := wantK_snoc x i
      by_cases hbit : x / 2 ^ i % 2 = 1
      · rw [hbit] at hbits
        rw [if_pos (by unfold bitX; rw [hbit]; rfl)] at hrvs hwas
        rw [List.append_nil] at hwas
        rw [HGD.out] at hrvs
        have HRVS := hide hrvs
        have HWAS := hide hwas
        clear hrvs hwas hbit
        obtain ⟨rcells, hro1, hro2, hro3⟩ := HRV9.out
        have HRO1 := hide hro1
        have HRO2 := hide hro2
        have HRO3 := hide hro3
        obtain ⟨RA, hRA⟩ : ∃ A, A = (pairC ⟨(i : Int), d⟩).toArray := ⟨_, rfl⟩
        have HRA := hide hRA
        have HBY59 : Hid ((q + 1) * i59.bytes ≤ 140737488355328) := by have := Nat.mul_le_mul (show q + 1 ≤ 25 by omega) HB59.out; show _ ≤ _; omega
        have hsz : B ≤ w9.heap.size := HSZ9.out
        clear hro1 hro2 hro3 hRA
        go_upto_region 16 with (fail)
        clear hbits e32
        go_upto_region 18 with (first
          | (refine wpList_load_row rfl 35 (.tmp 9) rfl X9 ?e1 35 Dv (0, 0) _ HX99.out Tryd.underlying35 rfl HIV.out ?_; (case e1 => rfl))
          | (refine wpList_readB (.agg RA) rfl (by rw [HRA.out]; exact run_op_buildP 59 (.inr rfl) (.tmp 45) (.tmp 46) rfl ⟨(i : Int), d⟩ HDL.out rfl HDV.out.symm) ?_; simp only [Act.put, List.setIfInBounds_toArray, List.set_cons_succ, List.set_cons_zero])
          | (refine wpList_runw (.slice (some ⟨w9.heap.size, 0, none⟩) 1 1) rfl (run_op_slice1 44 59 (.inr ⟨rfl, rfl⟩) (.tmp 47) rfl ⟨(i : Int), d⟩ HDL.out (congrArg Value.agg HRA.out)) ?_; simp only [Act.put, List.setIfInBounds_toArray, List.set_cons_succ, List.set_cons_zero])
          | (at_builtin; refine wpList_append_own_sl rfl (.tmp 44) (.tmp 48) 44 rfl B 59 i59 (.agg #[.int .i64 0, .int .u8 0, .int .u8 0, .int .u8 0, .int .u8 0, .int .u8 0, .int .u8 0, .int .u8 0, .int .u8 0, .int .u8 0, .int .u8 0, .int .u8 0, .int .u8 0, .int .u8 0, .int .u8 0, .int .u8 0, .int .u8 0, .int .u8 0, .int .u8 0, .int .u8 0, .int .u8 0, .int .u8 0, .int .u8 0, .int .u8 0, .int .u8 0, .int .u8 0, .int .u8 0, .int .u8 0, .int .u8 0, .int .u8 0, .int .u8 0, .int .u8 0, .int .u8 0]) 33 i59.bytes Tryd.underlying44 hi59 hz59 hs59 rfl rfl (by decide) (.slice ma q mc) q rcells rfl (HRO1.out.alloc _) (some ⟨w9.heap.size, 0, none⟩) 1 1 (pairC ⟨(i : Int), d⟩) rfl (by rw [pairC_len HDL.out]) (fun h => by cases h) (fun ad had j q hq => by cases had; rw [Addr.add_lit, Nat.zero_add, cell_new _ _ rfl]; simpa using hq) pairC_ones (by unfold maxLen; omega) HBY59.out (by simp; omega) ?_; intro ma9 mc9 wz hownz hgrowz))
        have hal : Below w9.heap.size w9 (w9.alloc (.cells (pairC ⟨(i : Int), d⟩).toArray 59)) := (Below.refl _ w9).alloc (Nat.le_refl _) _
        have hRVz : PairsAt B 59 wz ma9 (q + 1) mc9 (rvK l x (i + 1)) := by rw [HRVS.out]; exact PairsAt.snoc HDL.out (show I64 (i : Int) from i64_of (by omega) (by omega)) HRO2.out HRO3.out hownz
        have hPLz := HPL9.out.own (fun cells hc => ((hc.alloc _).kept hgrowz (own_apart hc HRO1.out (by decide)) : wz.ownsRow B 46 33 (.slice pa9 (i + 1) pc9) (i + 1) cells))
        have hWAz : MissAt B wz ua r uc (wantK x (i + 1)) := ⟨by rw [HWAS.out]; exact (HWA9.out.alloc _).kept hgrowz (own_apart HWA9.out HRO1.out (by decide)), by rw [HWAS.out]; have := HWA9.out.1; simpa using this⟩
        have hBz : Below w1.heap.size w1 wz := (HB9.out.trans (hal.mono HB9.out.size)).grown hgrowz (Nat.le_trans HB9.out.size hal.size) (fun g hg => by have := own_ge HRO1.out g hg; have := HBE.out; omega)
        have HRVz := hide hRVz
        have HPLz := hide hPLz
        have HWAz := hide hWAz
        have HBz := hide hBz
        clear hal hRVz hPLz hWAz hBz hownz hgrowz
        go_wp2_with fail
        go_roundw
        case rel => exact ⟨i + 1, q + 1, r, pa9, ma9, ua, pc9, mc9, uc, by omega, by go_num, rfl, rfl, rfl, HBz.out, HPLz.out, HRVz.out, HWAz.out⟩
        case measure => simp [intOf]; omega
      · have hb0 : x / 2 ^ i % 2 = 0 := by omega
        rw [hb0] at hbits
        rw [if_neg (by unfold bitX; rw [hb0]; decide)] at hrvs hwas
        rw [List.append_nil] at hrvs
        have HRVS := hide hrvs
        have HWAS := hide hwas
        have hsz : B ≤ w9.heap.size := HSZ9.out
        clear hrvs hwas hbit hb0
        go_upto_region 17 with (fail)
        clear hbits e32
        go_upto_region 18 with (at_builtin; refine wpList_append_own_sl rfl (.tmp 50) (.tmp 52) 49 rfl B 3 i3 (.int .i64 0) 1 8 Tryd.underlying49 hi3 hz3 hs3 hb3 rfl (by decide) (.slice ua r uc) r ((wantK x i).map (.int .i64)) rfl (HWA9.out.alloc _) (some ⟨w9.heap.size, 0, none⟩) 1 1 [.int .i64 i] rfl rfl (fun h => by cases h) (one_news _ _) (by intro z hz; simp only [List.mem_singleton] at hz; subst hz; rfl) (by unfold maxLen; omega) (by omega) (by simp; omega) ?_; intro ua9 uc9 wz hownz hgrowz)
        have hal : Below w9.heap.size w9 (w9.alloc (.cells #[.int .i64 (i : Int)] 3)) := (Below.refl _ w9).alloc (Nat.le_refl _) _
        have hWAz : MissAt B wz ua9 (r + 1) uc9 (wantK x (i + 1)) := by
          rw [HWAS.out]
          exact ⟨by rw [List.map_append]; exact hownz, by have := HWA9.out.1; simp at this; simp; omega⟩
        have hPLz := HPL9.out.own (fun cells hc => ((hc.alloc _).kept hgrowz (own_apart hc HWA9.out (by decide)) : wz.ownsRow B 46 33 (.slice pa9 (i + 1) pc9) (i + 1) cells))
        have hRVz : PairsAt B 59 wz ma q mc (rvK l x (i + 1)) := by rw [HRVS.out]; exact HRV9.out.own (fun cells hc => (hc.alloc _).kept hgrowz (own_apart hc HWA9.out (by decide)))
        have hBz : Below w1.heap.size w1 wz := (HB9.out.trans (hal.mono HB9.out.size)).grown hgrowz (Nat.le_trans HB9.out.size hal.size) (fun g hg => by have := own_ge HWA9.out g hg; have := HBE.out; omega)
        have HRVz := hide hRVz
        have HPLz := hide hPLz
        have HWAz := hide hWAz
        have HBz := hide hBz
        clear hal hRVz hPLz hWAz hBz hownz hgrowz
        go_wp2_with fail
        go_roundw
        case rel => exact ⟨i + 1, q, r + 1, pa9, ma, ua9, pc9, mc, uc9, by omega, by go_num, rfl, rfl, rfl, HBz.out, HPLz.out, HRVz.out, HWAz.out⟩
        case measure => simp [intOf]; omega
    · obtain rfl : i = n := by omega
      obtain ⟨hpc, hps⟩ := HPL.out.sl
      obtain ⟨hmc, hms⟩ := HRV.out.sl
      obtain ⟨huc, hus⟩ := HWA.out.ints
      have hB2 := hB1.trans (HB.out.mono hB1.size)
      have HV := hide (value_any pa i pc (plK l i) ma q mc (rvK l x i) wr (HI.out.below hB2) hps hms)
      have hv := valueM_ok (plK_rise l HN.out) (rvK_rise l x HN.out)
      rw [hv, opened_miss] at HV
      obtain ⟨tm, htm⟩ : ∃ t, t = tagM tBeacon (encV (.list (openedM (plK l i) (rvK l x i)))) := ⟨_, rfl⟩
      have htl : tm.length = 32 := by rw [htm]; exact tagM_len _ _
      rw [← htm] at HV
      obtain ⟨Dt, hDt, hdvt, hit, hot, hst⟩ := digV_parts tm htl
      simp only [hdvt] at HV
      have HIT := hide hit
      have HOT := hide hot
      have HST := hide hst
      have HUS := hide hus
      have hr1 : r ≤ 24 := by
        have h1 := HWA.out.2
        have : (wantK x i).length ≤ i := by unfold wantK; rw [List.length_map]; exact Nat.le_trans (List.length_filter_le _ _) (by simp)
        have := HN.out
        omega
      clear hps hms hus htm htl hDt hdvt hit hot hst hv HPL HRV HWA
      go_wp2_with fail
      refine HV.out.mono ?_
      rintro e w5 ⟨⟨va, kq, vc, rfl, hkc, hsl⟩, hS5⟩
      have hkr : kq = r := by rw [← hsl.len, HUS.out.len]
      subst hkr
      have hB5 := hB2.trans (hS5.mono hB2.size)
      have HUS5 := hide (HUS.out.below (IsInt.keeps _) hS5)
      have HSL5 := hide hsl
      clear hS5 hsl HV HUS
      go_upto_region 20 with (refine wpList_store_row rfl 35 (.tmp 12) (.tmp 59) rfl w5.heap.size Dt ?e1 ?e2 35 #[.int .u8 0, .int .u8 0, .int .u8 0, .int .u8 0, .int .u8 0, .int .u8 0, .int .u8 0, .int .u8 0, .int .u8 0, .int .u8 0, .int .u8 0, .int .u8 0, .int .u8 0, .int .u8 0, .int .u8 0, .int .u8 0, .int .u8 0, .int .u8 0, .int .u8 0, .int .u8 0, .int .u8 0, .int .u8 0, .int .u8 0, .int .u8 0, .int .u8 0, .int .u8 0, .int .u8 0, .int .u8 0, .int .u8 0, .int .u8 0, .int .u8 0, .int .u8 0] (heap_alloc_new w5 _) HIT.out ?e3 HOT.out ?_; (case e1 => rfl); (case e2 => rfl); (case e3 => exact HST.out.symm))
      have hS6 : Below w5.heap.size w5 ((w5.alloc (.cells #[.int .u8 0, .int .u8 0, .int .u8 0, .int .u8 0, .int .u8 0, .int .u8 0, .int .u8 0, .int .u8 0, .int .u8 0, .int .u8 0, .int .u8 0, .int .u8 0, .int .u8 0, .int .u8 0, .int .u8 0, .int .u8 0, .int .u8 0, .int .u8 0, .int .u8 0, .int .u8 0, .int .u8 0, .int .u8 0, .int .u8 0, .int .u8 0, .int .u8 0, .int .u8 0, .int .u8 0, .int .u8 0, .int .u8 0, .int .u8 0, .int .u8 0, .int .u8 0] 35)).setRow w5.heap.size Dt) := below_newRow _ _ _
      generalize (w5.alloc (.cells #[.int .u8 0, .int .u8 0, .int .u8 0, .int .u8 0, .int .u8 0, .int .u8 0, .int .u8 0, .int .u8 0, .int .u8 0, .int .u8 0, .int .u8 0, .int .u8 0, .int .u8 0, .int .u8 0, .int .u8 0, .int .u8 0, .int .u8 0, .int .u8 0, .int .u8 0, .int .u8 0, .int .u8 0, .int .u8 0, .int .u8 0, .int .u8 0, .int .u8 0, .int .u8 0, .int .u8 0, .int .u8 0, .int .u8 0, .int .u8 0, .int .u8 0, .int .u8 0] 35)).setRow w5.heap.size Dt = w6 at *
      have HC := sameints_any va kq vc (wantK x i) ua kq uc (wantK x i) w6 (by omega) (by omega) (HSL5.out.below (IsInt.keeps _) hS6) (HUS5.out.below (IsInt.keeps _) hS6)
      rw [decide_eq_true rfl] at HC
      have HC := hide HC
      have hB6 := hB5.trans (hS6.mono hB5.size)
      clear hS6 HUS5 HSL5
      go_wp2_with fail
      refine HC.out.mono ?_
      rintro e w7 ⟨rfl, hS7⟩
      go_wp2_with fail
      go_ret
      exact ⟨rfl, hB6.trans (hS7.mono hB6.size)⟩
end Go.Proofs.YtdfckeabafbfdaaDoor.Dr
