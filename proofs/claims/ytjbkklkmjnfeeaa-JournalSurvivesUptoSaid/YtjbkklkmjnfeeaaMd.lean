/- The texts JnL Apz JnO JnE JnM JnN JnP JnQ JnR JnS of this seat, joined. No condition beyond what each theorem states. -/
import Derived.Test.YtjbkklkmjnfeeaaMb
import Derived.Test.YtjbkklkmjnfeeaaMc
import Derived.Lib.AppendZerosOnto
import Derived.Deep.Cut
import Derived.Deep.DeepCutAuto
import Derived.Test.YtjbkklkmjnfeeaaMa
import Derived.Deep.RegionHeld3
/- The contract of encode of package journal. Plain theorem; no condition beyond the bounds that it states. -/
namespace Go.Proofs.Ytjbkklkmjnfeeaa
open Go.RowKit
variable {Nz : Nat}

theorem putL_mid (X Y Z : List UInt8) (off k n : Nat) (hx : X.length = off) (hy : Y.length = k) : putL (X ++ (Y ++ Z)) off k n k = X ++ (numlM n k ++ Z) := by
  unfold putL
  rw [Nat.sub_self, Nat.add_zero, List.take_left' hx, List.append_assoc, ← List.append_assoc X Y Z, List.drop_left' (by simp; omega)]

/-- The rows of encode, one store after the other. -/
def encA (g : Nat) : List UInt8 := numlM g 4 ++ List.replicate 124 0
def encB (g k : Nat) : List UInt8 := numlM g 4 ++ (List.replicate 4 0 ++ (numlM k 2 ++ List.replicate 118 0))
def encC (g k kind n : Nat) : List UInt8 := numlM g 4 ++ (List.replicate 4 0 ++ (numlM k 2 ++ (UInt8.ofNat kind :: UInt8.ofNat n :: List.replicate 116 0)))
def encD (g k kind : Nat) (l : List UInt8) : List UInt8 := numlM g 4 ++ (List.replicate 4 0 ++ (numlM k 2 ++ (UInt8.ofNat kind :: UInt8.ofNat l.length :: (l ++ List.replicate (116 - l.length) 0))))
def encE (g k kind : Nat) (l : List UInt8) : List UInt8 := numlM g 4 ++ (List.replicate 4 0 ++ (secBody k kind l ++ numlM g 4))
theorem encA_eq (g : Nat) : putL (List.replicate 128 0) 0 4 g 4 = encA g := by
  have := putL_mid [] (List.replicate 4 0) (List.replicate 124 0) 0 4 g rfl (by simp)
  simp only [List.nil_append, List.replicate_append_replicate] at this
  exact this
theorem encA_length (g : Nat) : (encA g).length = 128 := by simp [encA, numlM_length]
theorem encB_length (g k : Nat) : (encB g k).length = 128 := by simp [encB, numlM_length]
theorem encC_length (g k kind n : Nat) : (encC g k kind n).length = 128 := by simp [encC, numlM_length]
theorem encD_length (g k kind : Nat) (l : List UInt8) (h : l.length ≤ 112) : (encD g k kind l).length = 128 := by simp [encD, numlM_length]; omega
theorem encE_length (g k kind : Nat) (l : List UInt8) (h : l.length ≤ 112) : (encE g k kind l).length = 128 := by simp [encE, numlM_length, secBody_length k kind h]
theorem encB_eq (g k : Nat) : putL (encA g) 8 2 k 2 = encB g k := by
  have := putL_mid (numlM g 4 ++ List.replicate 4 0) (List.replicate 2 0) (List.replicate 118 0) 8 2 k (by simp [numlM_length]) (by simp)
  rw [show encA g = numlM g 4 ++ List.replicate 4 0 ++ (List.replicate 2 0 ++ List.replicate 118 0) by simp [encA, List.append_assoc], this]
  simp [encB]
theorem encC_eq (g k kind n : Nat) : ((encB g k).set 10 (UInt8.ofNat kind)).set 11 (UInt8.ofNat n) = encC g k kind n := by
  have e : encB g k = (numlM g 4 ++ (List.replicate 4 0 ++ numlM k 2)) ++ (0 :: 0 :: List.replicate 116 0) := by simp [encB, List.replicate_succ]
  have hl : (numlM g 4 ++ (List.replicate 4 (0 : UInt8) ++ numlM k 2)).length = 10 := by simp [numlM_length]
  rw [e, List.set_append_right _ _ (by omega), hl, List.set_append_right _ _ (by omega), hl]
  simp [encC]
theorem encD_eq (g k kind : Nat) (l : List UInt8) (_h : l.length ≤ 112) : (encC g k kind l.length).take 12 ++ l ++ (encC g k kind l.length).drop (12 + l.length) = encD g k kind l := by
  have e : encC g k kind l.length = (numlM g 4 ++ (List.replicate 4 0 ++ (numlM k 2 ++ [UInt8.ofNat kind, UInt8.ofNat l.length]))) ++ List.replicate 116 0 := by simp [encC]
  have hl : (numlM g 4 ++ (List.replicate 4 (0 : UInt8) ++ (numlM k 2 ++ [UInt8.ofNat kind, UInt8.ofNat l.length]))).length = 12 := by simp [numlM_length]
  rw [e, List.take_left' hl, ← List.drop_drop, List.drop_left' hl, List.drop_replicate]
  simp [encD]
theorem encE_eq (g k kind : Nat) (l : List UInt8) (h : l.length ≤ 112) : putL (encD g k kind l) 124 4 g 4 = encE g k kind l := by
  have e : encD g k kind l = (numlM g 4 ++ (List.replicate 4 0 ++ secBody k kind l)) ++ (List.replicate 4 0 ++ []) := by
    simp only [encD, secBody, List.append_assoc, List.cons_append, List.append_nil]
    rw [List.replicate_append_replicate, show 112 - l.length + 4 = 116 - l.length by omega]
  rw [e, putL_mid _ _ _ 124 4 g (by simp [numlM_length, secBody_length k kind h]) (by simp)]
  simp [encE]
theorem encF_eq (g k kind : Nat) (l : List UInt8) (_h : l.length ≤ 112) : putL (encE g k kind l) 4 4 (crcM (secBody k kind l)) 4 = secB g k kind l :=
  putL_mid (numlM g 4) (List.replicate 4 0) _ 4 4 _ (numlM_length g 4) (by simp)
theorem encE_sum (g k kind : Nat) (l : List UInt8) (h : l.length ≤ 112) : ((encE g k kind l).drop 8).take 116 = secBody k kind l := by
  rw [encE, ← List.append_assoc, List.drop_left' (by simp [numlM_length]), List.take_left' (secBody_length k kind h)]

/-- A part of a row of bytes. -/
theorem sl_part {w : World} {g : Nat} {t : TypeId} {bs : List UInt8} (off n : Nat) (hl : off + n ≤ bs.length) (h : RowIs w g t (byteVals bs)) : Sl 1 IsByte w (some ⟨g, off, none⟩) n ((bs.drop off).take n) := by
  refine ⟨by simp; omega, .inr ⟨g, off, rfl, fun i x hx => ⟨[.int .u8 x.toNat], rfl, rfl, fun j v hv => ?_⟩⟩⟩
  match j, hv with
  | 0, hv =>
    simp only [List.getElem?_cons_zero, Option.some.injEq] at hv
    subst hv
    rw [RowIs.cell h]
    rw [List.getElem?_take] at hx
    split at hx
    · rw [List.getElem?_drop] at hx
      simp [byteVals, hx]
    · cases hx

set_option maxRecDepth 100000 in
set_option maxHeartbeats 4000000 in
theorem encode_any (g k kind : Nat) (a : Option Addr) (n c : Nat) (l : List UInt8) (w : World) (hg : g < 18446744073709551616) (hk : k < 65536) (hkd : kind < 256) (hn : n ≤ 112) (h : Sl 1 IsByte w a n l) :
    Calls Try.prog 74 #[.int .u64 g, .int .i64 k, .int .u8 kind, .slice a n c] w fun e w' => e = .returned (.slice (some ⟨w.heap.size, 0, none⟩) 128 128) ∧ RowIs w' w.heap.size 111 (byteVals (secB g k kind l)) ∧ Below w.heap.size w w' := by
  have HZ : Hid (Try.zeroCells111 = (byteVals (List.replicate 128 0)).toArray) := by show _ = _; kernel_rfl
  have HL := hide h.len
  have HS := hide h
  clear h
  have wk : IntKind.u64.wrap (k : Int) = (k : Int) := by rw [IntKind.wrap_u64]; omega
  have wn : IntKind.u8.wrap (n : Int) = (n : Int) := by rw [IntKind.wrap_u8]; omega
  go_enter Try.func74, Try.ntmps74
  go_wp2_with fail
  refine (put_any w.heap.size 0 4 _ g 111 (List.replicate 128 0) _ hg (by omega) (by omega) (by simp) ?r0).mono ?_
  case r0 => show _ = _; rw [← HZ.out]; exact heap_new _ rfl
  rintro e w1 ⟨⟨v1, rfl⟩, hr1, hB1, hz1, ho1⟩
  rw [encA_eq] at hr1
  have hB1 : Below w.heap.size w w1 := ((Below.refl _ w).alloc (Nat.le_refl _) _).trans hB1
  have HR1 := hide hr1
  clear hr1 ho1 hz1 HZ
  go_wp2_with fail
  refine (put_any w.heap.size 8 2 _ k 111 (encA g) _ (by omega) (by omega) (by omega) (by rw [encA_length]; omega) HR1.out).mono ?_
  rintro e w2 ⟨⟨v2, rfl⟩, hr2, hB2, hz2, ho2⟩
  rw [encB_eq] at hr2
  have hB2 : Below w.heap.size w w2 := hB1.trans hB2
  have hc10 : ∃ x : UInt8, (encB g k)[10]? = some x := getElem?_of_lt (encB_length g k) (by omega)
  have hc11 : ∃ x : UInt8, (encB g k)[11]? = some x := getElem?_of_lt (encB_length g k) (by omega)
  obtain ⟨x10, hx10⟩ := hc10
  obtain ⟨x11, hx11⟩ := hc11
  have c10 : w2.cell? ⟨w.heap.size, 10, none⟩ = some (.int .u8 x10.toNat) := (RowIs.cell hr2 _).trans (by simp only [byteVals, List.getElem?_map, hx10]; rfl)
  have c11 : w2.cell? ⟨w.heap.size, 11, none⟩ = some (.int .u8 x11.toNat) := (RowIs.cell hr2 _).trans (by simp only [byteVals, List.getElem?_map, hx11]; rfl)
  have f10 : w2.frozen? ⟨w.heap.size, 10, none⟩ = false := frozen_of_row _ _ _ _ _ hr2
  have f11 : w2.frozen? ⟨w.heap.size, 11, none⟩ = false := frozen_of_row _ _ _ _ _ hr2
  have hr3 : RowIs ((w2.setCell ⟨w.heap.size, 10, none⟩ (.int .u8 kind)).setCell ⟨w.heap.size, 11, none⟩ (.int .u8 n)) w.heap.size 111 (byteVals (encC g k kind n)) := by
    have h1 := heap_setCell (heap_setCell hr2 10 (.int .u8 kind)) 11 (.int .u8 n)
    unfold RowIs
    rw [h1, ← encC_eq]
    have h2 : (UInt8.ofNat kind).toNat = kind := by rw [UInt8.toNat_ofNat']; omega
    have h3 : (UInt8.ofNat n).toNat = n := by rw [UInt8.toNat_ofNat']; omega
    simp [byteVals, List.map_set, h2, h3]
  have hB3 : Below w.heap.size w ((w2.setCell ⟨w.heap.size, 10, none⟩ (.int .u8 kind)).setCell ⟨w.heap.size, 11, none⟩ (.int .u8 n)) := (hB2.setCell (p := ⟨w.heap.size, 10, none⟩) (Nat.le_refl _) _).setCell (p := ⟨w.heap.size, 11, none⟩) (Nat.le_refl _) _
  have HR3 := hide hr3
  clear hr2 ho2 hz2 HR1 hx10 hx11 hr3
  have hl := HL.out
  have q1 : (byteVals l).length = Nat.min n 116 := by show _ = min n 116; rw [Nat.min_eq_left (by omega)]; simpa [byteVals] using hl
  have q2 : Hid (∀ W, Below w.heap.size w W → 0 < (byteVals l).length → ∃ ad, a = some ad ∧ ∀ j v, (byteVals l)[j]? = some v → W.cell? (ad.add j) = some v) := by
    intro W hW hpos
    obtain ⟨_, z2, z3, _⟩ := bytes_flat (HS.out.below IsByte.keeps hW)
    cases a with
    | none => rw [q1, z2 rfl] at hpos; exact absurd hpos (by decide)
    | some ad => exact ⟨ad, rfl, fun j v hv => z3 ad rfl j v hv⟩
  have q3 : ∀ v ∈ byteVals l, v.oneCell' = true := by
    intro v hv
    obtain ⟨x, _, rfl⟩ := List.mem_map.1 hv
    rfl
  have q4 : 12 + (byteVals l).length ≤ (byteVals (encC g k kind n)).length := by
    have := encC_length g k kind n
    simp only [byteVals, List.length_map] at *
    omega
  have hsp : splice (byteVals (encC g k kind n)) 12 (byteVals l) = byteVals (encD g k kind l) := by
    rw [← encD_eq g k kind l (by omega), hl]
    simp [splice, byteVals, List.map_append, List.map_take, List.map_drop, hl]
  have HSP := hide hsp
  have Q1 := hide q1
  clear hl hsp q1
  go_wp2_with (refine wpList_copy_splice rfl (.tmp 23) (.tmp 24) 35 35 rfl 5 Try.underlying35 sizeB (some ⟨w.heap.size, 12, none⟩) a 116 116 n c ?hd ?hs w.heap.size 12 (byteVals (encC g k kind n)) 111 HR3.out (byteVals l) Q1.out (fun h => ⟨rfl, q2.out _ hB3 h⟩) q4 q3 w.heap.size w hB3 (Nat.le_refl _) ?_; (case hd => rfl); (case hs => rfl); intro w4 HR4 hB4)
  have hr4 : RowIs w4 w.heap.size 111 (byteVals (encD g k kind l)) := by rw [← HSP.out]; exact HR4.out
  have HR4 := hide hr4
  clear hr4 c10 c11 f10 f11 hB3 HR3 q2 q3 q4
  have hl : l.length ≤ 112 := by rw [HL.out]; exact hn
  refine (put_any w.heap.size 124 4 _ g 111 (encD g k kind l) _ hg (by omega) (by omega) (by rw [encD_length _ _ _ _ hl]; omega) HR4.out).mono ?_
  rintro e w5 ⟨⟨v5, rfl⟩, hr5, hB5, hz5, ho5⟩
  rw [encE_eq _ _ _ _ hl] at hr5
  have hB5 : Below w.heap.size w w5 := hB4.trans hB5
  have HR5 := hide hr5
  have hcl := crcM_lt (secBody k kind l)
  obtain ⟨s, hs⟩ : ∃ s, s = crcM (secBody k kind l) := ⟨_, rfl⟩
  have hsl : s < 4294967296 := by rw [hs]; exact hcl
  have H87 : Hid (∀ W, RowIs W w.heap.size 111 (byteVals (encE g k kind l)) → Calls Try.prog 87 #[.slice (some ⟨w.heap.size, 8, none⟩) 116 120] W fun e w' => e = .returned (.int .u32 s) ∧ W = w') := fun W hW => by
    rw [hs, ← encE_sum g k kind l hl]
    exact sum_any _ _ _ _ W (by omega) (sl_part 8 116 (by rw [encE_length _ _ _ _ hl]; omega) hW)
  have H86 : Hid (∀ W, RowIs W w.heap.size 111 (byteVals (encE g k kind l)) → Calls Try.prog 86 #[.slice (some ⟨w.heap.size, 4, none⟩) 4 124, .int .u64 s] W fun e w' => (∃ v, e = .returned v) ∧ RowIs w' w.heap.size 111 (byteVals (secB g k kind l)) ∧ Below w.heap.size W w') := fun W hW => by
    refine (put_any w.heap.size 4 4 _ s 111 (encE g k kind l) W (by omega) (by omega) (by omega) (by rw [encE_length _ _ _ _ hl]; omega) hW).mono ?_
    rintro e w' ⟨h1, h2, h3, _, _⟩
    rw [hs, encF_eq _ _ _ _ hl] at h2
    exact ⟨h1, h2, h3⟩
  have ws : IntKind.u64.wrap (s : Int) = (s : Int) := by rw [IntKind.wrap_u64]; omega
  clear hr5 ho5 hz5 HR4 hB4 hs hcl
  go_wp2_with fail
  go_region_law (first
    | ((try go_simp); go_at_call 87; refine (H87.out _ (by exact HR5.out)).mono ?_; rintro e w' ⟨rfl, rfl⟩)
    | ((try go_simp); go_at_call 86; refine (H86.out _ (by exact HR5.out)).mono ?_; rintro e w6 ⟨⟨v6, rfl⟩, hr6, hB6⟩; have HR6 := hide hr6; clear hr6))
  all_goals
    go_wp2
    go_ret
    exact ⟨rfl, HR6.out, hB5.trans ((Below.refl _ w5).drew.trans hB6)⟩
end Go.Proofs.Ytjbkklkmjnfeeaa

/- The law of append of a made slice of zeros onto a row of the call's own. Plain theorem; no condition. -/
namespace Go.Proofs.Ytjbkklkmjnfeeaa
open Go.RowKit

theorem zeroCells_one (z : Value) (k : Nat) : Builtin.zeroCells #[z] k = (List.replicate k z).toArray := by
  apply Array.ext
  · simp [Builtin.zeroCells]
  · intro i h1 h2
    simp [Builtin.zeroCells, Nat.mod_one]

theorem run_append_own_zeros {P : Program} {w : World} (t tn ty base : Nat) (e : TypeId) (i : TypeInfo) (z : Value) (bytes : Nat) (kq kn : IntKind) (ht : P.underlying t = some (.slice e)) (htn : P.underlying tn = some (.int kn)) (hi : P.info? e = some i) (hz : i.zero = some z)
    (hsize : i.size = 1) (hby : i.bytes = bytes) (hzs : z.cells = #[z]) (h1 : z.oneCell' = true)
    (v : Value) (n : Nat) (xs : List Value) (hown : w.ownsRow base e 1 v n xs) (k : Nat)
    (h63 : n + k ≤ maxLen) (hbytes : (n + k) * bytes ≤ 140737488355328) (hbase : base ≤ w.heap.size) :
    ∃ va vc w', (Builtin.append_ #[t, tn] ty #[v, .int kq k]).run P w = .ok (.slice va (n + k) vc) w' ∧ w'.ownsRow base e 1 (.slice va (n + k) vc) (n + k) (xs ++ List.replicate k z) ∧ w.grownBy w' v.ownBlock := by
  have hlen : (xs ++ List.replicate k z).length = (n + k) * 1 := by simp [hown.1]
  have hm : n + k ≤ 9223372036854775807 := by unfold maxLen at h63; omega
  have hkb : k * bytes ≤ 140737488355328 := Nat.le_trans (Nat.mul_le_mul_right _ (Nat.le_add_left k n)) hbytes
  have made : ∀ old : Nat, old < n + k → (w.drew.alloc (.cells (xs.toArray ++ Builtin.zeroCells z.cells k ++ Builtin.zeroCells z.cells (grownCap w (n + k) old e - (n + k))) e)).ownsRow base e 1
        (.slice (some ⟨w.heap.size, 0, none⟩) (n + k) (grownCap w (n + k) old e)) (n + k) (xs ++ List.replicate k z) := by
    intro old _
    refine ⟨hlen, .inr ⟨w.heap.size, _, _, rfl, hbase, heap_alloc_new w.drew _, grownCap_ge w (n + k) old e, grownCap_le_maxLen w (n + k) old e h63, ?_, ?_⟩⟩
    · have hge := grownCap_ge w (n + k) old e
      have hx := hown.1
      rw [hzs]
      simp only [Array.size_append, List.size_toArray, size_zeroCells, hx]
      simp
      omega
    · rw [hzs, zeroCells_one, zeroCells_one]
      simp only [Array.toList_append]
      rw [← hlen]
      exact List.take_left
  have grew : ∀ o row, w.grownBy (w.drew.alloc o) row := fun o row => ⟨rfl, rfl, rfl, by simp, fun q hq _ => Below.heap_alloc w.drew o q hq⟩
  have hneg : ¬ ((k : Int) < 0) := by omega
  have hw : IntKind.i64.wrap (k : Int) = k := by rw [IntKind.wrap_i64]; omega
  have hw0 : IntKind.i64.wrap 0 = 0 := by decide
  have h48i : ¬ (281474976710656 < (k : Int) * (i.bytes : Int)) := by
    rw [← Int.natCast_mul, hby]
    omega
  rcases hown.2 with ⟨rfl, rfl⟩ | ⟨g, cap, cur, rfl, hbg, hg, hnc, hcm, hcs, htake⟩
  · obtain rfl : xs = [] := List.eq_nil_of_length_eq_zero (by simpa using hown.1)
    by_cases hk : k = 0
    · subst hk
      refine ⟨none, 0, w, ?_, World.ownsRow_nil w base e 1, grownBy_refl _ _⟩
      simp [Builtin.append_, run_underlying ht, run_underlying htn, sizeOf, typeInfo, hi, asInt, asIntOf, hw0]
    · have hr := Lib.run_append_nil_zeros (P := P) w t tn ty e i z kq kn ht htn hi hz k (by omega) (by omega) (by omega) (by rw [hby]; omega)
      have hm0 := made 0 (by omega)
      simp only [Nat.zero_add, List.nil_append, Array.empty_append] at hm0 ⊢
      exact ⟨_, _, _, hr, hm0, grew _ _⟩
  · by_cases hroom : n + k ≤ cap
    · have hfit : n + (List.replicate k z).length ≤ cur.size := by simp; omega
      have hst := run_storeCells_at P g n e (List.replicate k z) 0 cur w hg (by simpa using hfit) (fun u hu => by rw [List.eq_of_mem_replicate hu]; exact h1)
      simp only [Nat.add_zero] at hst
      refine ⟨_, _, w.setRow g (cur.toList.take n ++ List.replicate k z ++ cur.toList.drop (n + (List.replicate k z).length)).toArray, ?_, ⟨hlen, .inr ⟨g, cap, _, rfl, hbg, setRow_heap w g cur _ e _ hg, hroom, hcm, ?_, ?_⟩⟩, ⟨rfl, rfl, rfl, by simp, fun q _ hq => setRow_other w g q _ (fun e => hq (by simp [Value.ownBlock, e]))⟩⟩
      · by_cases hk : k = 0
        · subst hk
          simp only [List.replicate_zero] at hst
          simp [Builtin.append_, run_underlying ht, run_underlying htn, sizeOf, typeInfo, zeroValue, hi, hz, hsize, asInt, asIntOf, hw0, hnc, Addr.add_lit, hst]
        · have hstz : (List.replicate k z).toArray.toList = List.replicate k z := rfl
          simp [Builtin.append_, run_underlying ht, run_underlying htn, sizeOf, typeInfo, zeroValue, hi, hz, hsize, asInt, asIntOf, hw, hneg, h48i, hk, hroom, Addr.add_lit, hzs, zeroCells_one, hst]
      · simp only [List.size_toArray, List.length_append, List.length_take, List.length_drop, Array.length_toList, List.length_replicate]
        omega
      · have htk : cur.toList.take n = xs := by simpa using htake
        rw [htk, ← hlen]
        exact List.take_left
    · have holds : ∀ j u, xs[j]? = some u → w.cell? ((⟨g, 0, none⟩ : Addr).add j) = some u := hown.cells (g := g) rfl
      have hf : (Builtin.firstCells i.size n (.slice (some ⟨g, 0, none⟩) n cap)).run P w.drew = .ok xs.toArray w.drew := run_firstCells_some (P := P) w.drew i.size n ⟨g, 0, none⟩ n cap xs (by rw [hsize]; exact hown.1) holds
      have hr := Lib.run_append_grow_zeros (P := P) w t tn ty e i z kq kn ht htn hi hz (some ⟨g, 0, none⟩) n cap xs hf k (by omega) (by omega) (by omega) (by omega) (by rw [hby]; omega) (growslice_fits (by omega) (by rw [hby]; exact hbytes))
      exact ⟨_, _, _, hr, made cap (by omega), grew _ _⟩

theorem wp_append_own_zeros {P : Program} {w : World} {o : Oper} {a : Act} {K : Act → World → Prop} {Q : Exit → Act → World → Prop} (s x : Operand) (t tn : TypeId)
    (ho : o.op = .call { callee := .builtin .append, args := #[s, x], argTypes := #[t, tn] })
    (base : Nat) (e : TypeId) (i : TypeInfo) (z : Value) (bytes : Nat) (kq kn : IntKind) (ht : P.underlying t = some (.slice e)) (htn : P.underlying tn = some (.int kn)) (hi : P.info? e = some i) (hz : i.zero = some z)
    (hsize : i.size = 1) (hby : i.bytes = bytes) (hzs : z.cells = #[z]) (h1 : z.oneCell' = true)
    (v : Value) (n : Nat) (xs : List Value) (hs : a.eval s = v) (hown : w.ownsRow base e 1 v n xs) (k : Nat) (hx : a.eval x = .int kq k)
    (h63 : n + k ≤ maxLen) (hbytes : (n + k) * bytes ≤ 140737488355328) (hbase : base ≤ w.heap.size)
    (h : ∀ va vc w', w'.ownsRow base e 1 (.slice va (n + k) vc) (n + k) (xs ++ List.replicate k z) → w.grownBy w' v.ownBlock → K (a.put o.dst (.slice va (n + k) vc)) w') : o.wp P a w K Q := by
  obtain ⟨va, vc, w', hr, h2, h3⟩ := run_append_own_zeros (P := P) (w := w) t tn o.type base e i z bytes kq kn ht htn hi hz hsize hby hzs h1 v n xs hown k h63 hbytes hbase
  unfold Oper.wp execOp
  simp only [ho, resolve, invoke, builtin, Sem.run_bind, Sem.run_pure, Result.andThen_ok, List.map_toArray, List.map_cons, List.map_nil, hs, hx, hr]
  exact h va vc w' h2 h3

theorem wpList_append_own_zeros {P : Program} {w : World} {ops : Array Oper} {rest : List Oper} {o : Oper} {a : Act} {Q : Exit → Act → World → Prop} (hgd : o.guard = none) (s x : Operand) (t tn : TypeId)
    (ho : o.op = .call { callee := .builtin .append, args := #[s, x], argTypes := #[t, tn] })
    (base : Nat) (e : TypeId) (i : TypeInfo) (z : Value) (bytes : Nat) (kq kn : IntKind) (ht : P.underlying t = some (.slice e)) (htn : P.underlying tn = some (.int kn)) (hi : P.info? e = some i) (hz : i.zero = some z)
    (hsize : i.size = 1) (hby : i.bytes = bytes) (hzs : z.cells = #[z]) (h1 : z.oneCell' = true)
    (v : Value) (n : Nat) (xs : List Value) (hs : a.eval s = v) (hown : w.ownsRow base e 1 v n xs) (k : Nat) (hx : a.eval x = .int kq k)
    (h63 : n + k ≤ maxLen) (hbytes : (n + k) * bytes ≤ 140737488355328) (hbase : base ≤ w.heap.size)
    (h : ∀ va vc w', w'.ownsRow base e 1 (.slice va (n + k) vc) (n + k) (xs ++ List.replicate k z) → w.grownBy w' v.ownBlock → wpList P ops Q rest (a.put o.dst (.slice va (n + k) vc)) w') : wpList P ops Q (o :: rest) a w :=
  wpList_plain hgd fun _ hK => wp_append_own_zeros s x t tn ho base e i z bytes kq kn ht htn hi hz hsize hby hzs h1 v n xs hs hown k hx h63 hbytes hbase fun va vc w' h2 h3 => hK _ _ (h va vc w' h2 h3)

/-- A row that is known whole is the call's own. -/
theorem own_of_row {w : World} {g base : Nat} {e : TypeId} {l : List Value} (n : Nat) (h : RowIs w g e l) (hb : base ≤ g) (hn : l.length = n) (hm : n ≤ maxLen) : w.ownsRow base e 1 (.slice (some ⟨g, 0, none⟩) n n) n l :=
  ⟨by omega, .inr ⟨g, n, _, rfl, hb, h, Nat.le_refl _, hm, by simp; omega, by rw [Nat.mul_one, ← hn]; exact List.take_length⟩⟩
end Go.Proofs.Ytjbkklkmjnfeeaa

/- The contract of Sector of the journal's reference. Plain theorem; no condition beyond the bounds that it states. -/
namespace Go.Proofs.Ytjbkklkmjnfeeaa
open Go.RowKit
variable {Nz : Nat}

def bgN (b : Bool) : Nat := if b then 1 else 0
def kindOf (b e : Bool) : Nat := (if b then 1 else 0) + (if e then 2 else 0)
theorem byteVals_append (a b : List UInt8) : byteVals (a ++ b) = byteVals a ++ byteVals b := by simp [byteVals]
theorem byteVals_zeros (k : Nat) : byteVals (List.replicate k 0) = List.replicate k (.int .u8 0) := by simp [byteVals]
theorem byteVals_body (k kind : Nat) (l : List UInt8) (hk : kind < 256) (hl : l.length ≤ 112) : byteVals (numlM k 2) ++ [.int .u8 kind, .int .u8 l.length] ++ byteVals l ++ List.replicate (112 - l.length) (.int .u8 0) = byteVals (secBody k kind l) := by
  have h2 : (UInt8.ofNat kind).toNat = kind := by rw [UInt8.toNat_ofNat']; omega
  have h3 : (UInt8.ofNat l.length).toNat = l.length := by rw [UInt8.toNat_ofNat']; omega
  simp [secBody, byteVals, h2, h3]

set_option maxRecDepth 100000 in
set_option maxHeartbeats 4000000 in
theorem rencode_any (g k : Nat) (bg en : Bool) (a : Option Addr) (n c : Nat) (l : List UInt8) (w : World) (hg : g < 18446744073709551616) (hk : k < 65536) (hn : n ≤ 112) (h : Sl 1 IsByte w a n l) :
    Calls Try.prog 76 #[.int .u64 g, .int .i64 k, .bool bg, .bool en, .slice a n c] w fun e w' => (∃ v, e = .returned v ∧ IsBs Nz w' [v] (secB g k (kindOf bg en) l)) ∧ Below w.heap.size w w' := by
  have HL := hide h.len
  have HS := hide h
  clear h
  have wk : IntKind.u64.wrap (k : Int) = (k : Int) := by rw [IntKind.wrap_u64]; omega
  have wn : IntKind.u8.wrap (n : Int) = (n : Int) := by rw [IntKind.wrap_u8]; omega
  obtain ⟨i0, hi0, hz0, hz1, hz2⟩ := info_parts infoB
  obtain ⟨kd, hkd⟩ : ∃ kd, kd = kindOf bg en := ⟨_, rfl⟩
  have hkd4 : kd < 4 := by rw [hkd]; cases bg <;> cases en <;> decide
  rw [← hkd]
  have w01 : IntKind.u8.wrap 1 = 1 := by decide
  have w02 : IntKind.u8.wrap 2 = 2 := by decide
  have w03 : IntKind.u8.wrap 3 = 3 := by decide
  go_enter Try.func76, Try.ntmps76
  have HK : Hid (kd = kindOf bg en) := hkd
  clear hkd
  have HN : Hid (∀ W, Below w.heap.size w W → (byteVals l).length = n * 1 ∧ (a = none → n = 0) ∧ (∀ ad, a = some ad → ∀ j u, (byteVals l)[j]? = some u → W.cell? (ad.add j) = some u) ∧ (∀ u ∈ byteVals l, u.oneCell' = true)) := fun W hW => bytes_flat (HS.out.below IsByte.keeps hW)
  have zInt : Value.int .i64 (112 - (n : Int)) = .int .i64 ((112 - n : Nat) : Int) := by congr 1; omega
  have ZINT := hide zInt
  clear zInt
  go_upto_if 14 with (fail)
  go_cut [11] (fun s11 wx => s11 = .int .u8 ((bgN bg : Nat) : Int) ∧ w = wx)
  case first =>
    cases bg
    all_goals
      go_wp2
      go_meet
      exact ⟨rfl, rfl⟩
  case rest =>
  obtain ⟨rfl, rfl⟩ := hcut
  go_upto_if 17 with (fail)
  go_cut [11] (fun s11 wx => s11 = .int .u8 kd ∧ w = wx)
  case first =>
    have HK2 := HK.out
    cases bg <;> cases en
    all_goals
      simp only [kindOf] at HK2
      subst HK2
      go_wp2
      go_meet
      exact ⟨rfl, rfl⟩
  case rest =>
  obtain ⟨rfl, rfl⟩ := hcut
  go_wp2_with fail
  refine (numeral_any k 2 _ (by omega) (by omega) (by omega)).mono ?_
  rintro e w1 ⟨rfl, hr1, hB1⟩
  have O1 := hide (own_of_row (base := w.heap.size) 2 hr1 (Nat.le_refl _) (by simp [byteVals, numlM_length]) (by unfold maxLen; omega))
  clear hr1
  have hs1 := hB1.size
  go_upto_region 7 with (at_builtin; refine wpList_append_own_sl rfl (.tmp 22) (.tmp 27) 35 rfl w.heap.size 5 i0 (.int .u8 0) 1 1 Try.underlying35 hi0 hz0 hz1 hz2 rfl (by decide) (.slice (some ⟨w.heap.size, 0, none⟩) 2 2) 2 (byteVals (numlM k 2)) rfl (O1.out.alloc _) (some ⟨w1.heap.size, 0, none⟩) 2 2 [.int .u8 kd, .int .u8 n] rfl rfl ?p0 ?p1 ?p2 ?p3 ?p4 ?p5 ?_; rotate_right; intro a2 c2 w2 hown hgrow)
  case p0 => rintro ⟨⟩
  case p1 =>
    rintro ad ⟨⟩ j u hu
    rw [Addr.add_lit, Nat.zero_add, cell_new _ _ rfl]
    have := HK.out
    simp only [kindOf] at this
    subst this
    simpa using hu
  case p2 => simp [Value.oneCell']
  case p3 => unfold maxLen; omega
  case p4 => omega
  case p5 => simp; omega
  have hB2 : Below w.heap.size w w2 := ((hB1.alloc (by omega) _).grown hgrow (by simp; omega) (fun q hq => by simp [Value.ownBlock] at hq; omega))
  have O2 := hide hown
  have hs2 := hB2.size
  clear hown hgrow O1 hB1 hs1
  obtain ⟨n1, n2, n3, n4⟩ := HN.out w2 hB2
  have N1 := hide n1
  have N2 := hide n2
  have N3 := hide n3
  have N4 := hide n4
  clear n1 n2 n3 n4
  go_upto_region 8 with (at_builtin; refine wpList_append_own_sl rfl (.tmp 29) (.tmp 30) 35 rfl w.heap.size 5 i0 (.int .u8 0) 1 1 Try.underlying35 hi0 hz0 hz1 hz2 rfl (by decide) (.slice a2 4 c2) 4 (byteVals (numlM k 2) ++ [.int .u8 kd, .int .u8 n]) rfl O2.out a n c (byteVals l) rfl N1.out N2.out N3.out N4.out ?p6 ?p7 ?p8 ?_; rotate_right; intro a3 c3 w3 hown hgrow)
  case p6 => unfold maxLen; omega
  case p7 => omega
  case p8 => omega
  have hB3 : Below w.heap.size w w3 := hB2.grown hgrow (by omega) (fun q hq => (O2.out.lt q hq).1)
  have O3 := hide hown
  have hs3 := hB3.size
  clear hown hgrow O2 hB2 hs2 N1 N2 N3 N4
  go_upto_region 9 with (at_builtin; refine wpList_append_own_zeros rfl (.tmp 32) (.tmp 35) 35 3 rfl w.heap.size 5 i0 (.int .u8 0) 1 .i64 .i64 Try.underlying35 Try.underlying3 hi0 hz0 hz1 hz2 rfl rfl (.slice a3 (4 + n) c3) (4 + n) (byteVals (numlM k 2) ++ [.int .u8 kd, .int .u8 n] ++ byteVals l) rfl O3.out (112 - n) ?p9 ?q0 ?q1 ?q2 ?_; rotate_right; intro a4 c4 w4 hown hgrow)
  case p9 => exact ZINT.out
  case q0 => unfold maxLen; omega
  case q1 => omega
  case q2 => omega
  have hB4 : Below w.heap.size w w4 := hB3.grown hgrow (by omega) (fun q hq => (O3.out.lt q hq).1)
  have hown : w4.ownsRow w.heap.size 5 1 (.slice a4 116 c4) 116 (byteVals (secBody k kd l)) := by
    rw [← byteVals_body k kd l (by omega) (by rw [HL.out]; exact hn), HL.out]
    rw [show 4 + n + (112 - n) = 116 by omega] at hown
    exact hown
  have hsize : (4 + n + (112 - n) : Nat) = 116 := by omega
  rw [hsize]
  have O4 := hide hown
  have hs4 := hB4.size
  obtain ⟨xa, xn, xc, hv, x1, x2, x3, x4⟩ := isBs_own (Nz := Nz) hown
  simp only [List.cons.injEq, Value.slice.injEq, and_true] at hv
  obtain ⟨rfl, rfl, rfl⟩ := hv
  have X3 := hide x3
  clear hown hgrow O3 hB3 hs3 hsize x1 x2 x3 x4
  have hl : l.length ≤ 112 := by rw [HL.out]; exact hn
  have hcl := crcM_lt (secBody k kd l)
  obtain ⟨s, hs⟩ : ∃ s, s = crcM (secBody k kd l) := ⟨_, rfl⟩
  have hsl : s < 4294967296 := by rw [hs]; exact hcl
  have H89 : Hid (∀ W, Below w4.heap.size w4 W → Calls Try.prog 89 #[.slice a4 116 c4] W fun e w' => e = .returned (.int .u32 s) ∧ W = w') := fun W hW => by
    rw [hs]
    exact rsum_any _ _ _ _ W (by omega) (X3.out.below IsByte.keeps hW)
  have ws : IntKind.u64.wrap (s : Int) = (s : Int) := by rw [IntKind.wrap_u64]; omega
  have SS := hide hs
  clear hcl hs hl
  go_wp2_with fail
  refine (numeral_any g 4 _ hg (by omega) (by omega)).mono ?_
  rintro e w5 ⟨rfl, hr5, hB5⟩
  have HR5 := hide hr5
  have hs5 := hB5.size
  have hl5 : w4.heap.size < w5.heap.size := HR5.out.lt
  clear hr5
  go_wp2_with fail
  refine (H89.out _ hB5).mono ?_
  rintro e w' ⟨rfl, rfl⟩
  go_wp2_with fail
  refine (numeral_any s 4 _ (by omega) (by omega) (by omega)).mono ?_
  rintro e w6 ⟨rfl, hr6, hB6⟩
  have HR6 := hide hr6
  have hs6 := hB6.size
  have O6 := hide (own_of_row (base := w4.heap.size) 4 (HR5.out.below hB6 hl5) (Nat.le_refl _) (by simp [byteVals, numlM_length]) (by unfold maxLen; omega))
  have hB6' : Below w4.heap.size w4 w6 := hB5.trans (hB6.mono hs5)
  clear hr6
  go_upto_region 10 with (at_builtin; refine wpList_append_own_sl rfl (.tmp 38) (.tmp 42) 35 rfl w4.heap.size 5 i0 (.int .u8 0) 1 1 Try.underlying35 hi0 hz0 hz1 hz2 rfl (by decide) (.slice (some ⟨w4.heap.size, 0, none⟩) 4 4) 4 (byteVals (numlM g 4)) rfl O6.out (some ⟨w5.heap.size, 0, none⟩) 4 4 (byteVals (numlM s 4)) rfl ?r0 ?r1 ?r2 ?r3 ?r4 ?r5 ?r6 ?_; rotate_right; intro a7 c7 w7 hown hgrow)
  case r0 => simp [byteVals, numlM_length]
  case r1 => rintro ⟨⟩
  case r2 =>
    rintro ad ⟨⟩ j u hu
    rw [Addr.add_lit, Nat.zero_add, RowIs.cell HR6.out, hu]
  case r3 =>
    intro u hu
    obtain ⟨x, _, rfl⟩ := List.mem_map.1 hu
    rfl
  case r4 => unfold maxLen; omega
  case r5 => omega
  case r6 => omega
  have hB7 : Below w4.heap.size w4 w7 := hB6'.grown hgrow (by omega) (fun q hq => (O6.out.lt q hq).1)
  have O7 := hide hown
  have hs7 := hB7.size
  obtain ⟨n1, n2, n3, n4⟩ := bytes_flat (X3.out.below IsByte.keeps hB7)
  have N1 := hide n1
  have N2 := hide n2
  have N3 := hide n3
  have N4 := hide n4
  clear hown hgrow O6 hB6 hB6' hs6 HR6 HR5 hB5 hs5 hl5 n1 n2 n3 n4
  go_wp2_with (first
    | (go_at_call 88; refine (numeral_any g 4 _ hg (by omega) (by omega)).mono ?_; rintro e w9 ⟨rfl, hr9, hB9⟩; have HR9 := hide hr9; have hs9 := hB9.size; have O9 := hide (O8.out.kept (w' := w9) (row := none) ⟨hB9.os, hB9.tape, hB9.output, hB9.size, fun q hq _ => hB9.block q hq⟩ (by cases (Value.slice a8 124 c8).ownBlock <;> simp)); have hB9' := hB8.trans (hB9.mono hs8); clear hr9 hB9)
    | (at_builtin; refine wpList_append_own_sl rfl (.tmp 44) (.tmp 45) 35 rfl w4.heap.size 5 i0 (.int .u8 0) 1 1 Try.underlying35 hi0 hz0 hz1 hz2 rfl (by decide) (.slice a7 8 c7) 8 (byteVals (numlM g 4) ++ byteVals (numlM s 4)) rfl O7.out a4 116 c4 (byteVals (secBody k kd l)) rfl N1.out N2.out N3.out N4.out ?t0 ?t1 ?t2 ?_; rotate_right; intro a8 c8 w8 hown hgrow; have hB8 : Below w4.heap.size w4 w8 := hB7.grown hgrow hs7 (fun q hq => (O7.out.lt q hq).1); have O8 := hide hown; have hs8 := hB8.size; clear hown hgrow)
    | (at_builtin; refine wpList_append_own_sl rfl (.tmp 46) (.tmp 48) 35 rfl w4.heap.size 5 i0 (.int .u8 0) 1 1 Try.underlying35 hi0 hz0 hz1 hz2 rfl (by decide) (.slice a8 124 c8) 124 (byteVals (numlM g 4) ++ byteVals (numlM s 4) ++ byteVals (secBody k kd l)) rfl O9.out (some ⟨w8.heap.size, 0, none⟩) 4 4 (byteVals (numlM g 4)) rfl ?u0 ?u1 ?u2 ?u3 ?u4 ?u5 ?u6 ?_; rotate_right; intro aA cA wA hown hgrow; have hBA : Below w4.heap.size w4 wA := hB9'.grown hgrow (by omega) (fun q hq => (O9.out.lt q hq).1); have OA := hide hown; clear hown hgrow))
  case u0 => simp [byteVals, numlM_length]
  case u1 => rintro ⟨⟩
  case u2 =>
    rintro ad ⟨⟩ j u hu
    rw [Addr.add_lit, Nat.zero_add, RowIs.cell HR9.out, hu]
  case u3 =>
    intro u hu
    obtain ⟨x, _, rfl⟩ := List.mem_map.1 hu
    rfl
  case u4 => unfold maxLen; omega
  case u5 => omega
  case u6 => omega
  case t0 => unfold maxLen; omega
  case t1 => omega
  case t2 => omega
  go_ret
  have hfin : byteVals (numlM g 4) ++ byteVals (numlM s 4) ++ byteVals (secBody k kd l) ++ byteVals (numlM g 4) = byteVals (secB g k kd l) := by
    rw [SS.out, ← byteVals_append, ← byteVals_append, ← byteVals_append]
    simp [secB]
  have hown := OA.out
  rw [hfin] at hown
  exact ⟨⟨_, rfl, isBs_own hown⟩, hB4.trans (hBA.mono hs4)⟩
end Go.Proofs.Ytjbkklkmjnfeeaa

/- The contract of get of package journal. Plain theorem; no condition beyond the bounds that it states. -/
namespace Go.Proofs.Ytjbkklkmjnfeeaa
open Go.RowKit
variable {Nz : Nat}

set_option maxRecDepth 100000 in
set_option maxHeartbeats 1000000 in
theorem get_any (a : Option Addr) (n c : Nat) (l : List UInt8) (w : World) (hn : n ≤ 6) (h : Sl 1 IsByte w a n l) :
    Calls Try.prog 71 #[.slice a n c] w fun e w' => e = .returned (.int .u64 (numM l)) ∧ w = w' := by
  have HL := hide h.len
  rcases h.bytes with h0 | ⟨b, off, rfl, hc⟩
  · obtain rfl := h0
    clear h
    go_enter Try.func71, Try.ntmps71
    go_wp2
    refine wp_loop_rounds 1 ?_
    rw [rounds_succ]
    go_wp2
    go_ret
    exact ⟨ret_int (by rw [List.eq_nil_of_length_eq_zero HL.out]; rfl), rfl⟩
  clear h
  go_enter Try.func71, Try.ntmps71
  go_wp2
  go_loop [2, 7] (fun z i => ∃ k : Nat, k ≤ n ∧ i = .int .i64 k ∧ z = .int .u64 (numM (l.take k))) (fun _ i => n - (intOf i).toNat)
  case atStart => exact ⟨0, Nat.zero_le _, rfl, rfl⟩
  case round =>
    obtain ⟨k, hk, rfl, rfl⟩ := hrel
    by_cases hlt : k < n
    · obtain ⟨x, hx⟩ := getElem?_of_lt HL.out hlt
      have hcell := hc k x hx
      have hu := numM_snoc l k x hx
      have hs := numM_small l k (by omega)
      have hxl := x.toNat_lt
      obtain ⟨u, hu0⟩ : ∃ u, u = numM (l.take k) := ⟨_, rfl⟩
      rw [← hu0] at hu hs ⊢
      have HU := hide hu
      obtain ⟨xx, hxx⟩ : ∃ xx, xx = x.toNat := ⟨_, rfl⟩
      rw [← hxx] at hcell hxl
      have HXX := hide hxx
      have w1 : IntKind.u64.wrap ((u : Int) * 256) = ((u * 256 : Nat) : Int) := by rw [IntKind.wrap_u64]; omega
      have w3 : IntKind.u64.wrap (xx : Int) = (xx : Int) := by rw [IntKind.wrap_u64]; omega
      have w2 : bits .or .u64 ((u * 256 : Nat) : Int) (xx : Int) = ((u * 256 + xx : Nat) : Int) := by rw [u64_or_nat (u * 256) xx (by omega) (by omega), shl_or u xx hxl]
      clear hc hx hu hu0 hxx
      go_wp2
      go_round
      case rel =>
        refine ⟨k + 1, by omega, by go_num, ?_⟩
        rw [HU.out, ← HXX.out, show (u : Int) * 256 = ((u * 256 : Nat) : Int) by omega, w2]
      case measure => simp [intOf]; omega
    · obtain rfl : k = n := by omega
      clear hc
      go_wp2
      go_ret
      exact ⟨ret_int (by rw [List.take_of_length_le (by have := HL.out; omega)]), rfl⟩
end Go.Proofs.Ytjbkklkmjnfeeaa

/- Contracts of bytes.Equal, slices.EqualFunc over it, and SameRecords of the journal's reference. Plain theorems; no condition beyond the bounds that each states. -/
namespace Go.Proofs.Ytjbkklkmjnfeeaa
open Go.RowKit
variable {Nz : Nat}

set_option maxRecDepth 100000 in
set_option maxHeartbeats 1000000 in
theorem equal_any (a : Option Addr) (n c : Nat) (b : Option Addr) (m d : Nat) (l l' : List UInt8) (w : World) (h : Sl 1 IsByte w a n l) (h' : Sl 1 IsByte w b m l') :
    Calls Try.prog 73 #[.slice a n c, .slice b m d] w fun e w' => e = .returned (.bool (decide (l = l'))) ∧ w = w' := by
  have t1 : (convert 35 9 (.slice a n c)).run Try.prog w = .ok (.string (strB l)) w := conv_at h (Below.refl _ w)
  have t2 : (convert 35 9 (.slice b m d)).run Try.prog w = .ok (.string (strB l')) w := conv_at h' (Below.refl _ w)
  clear h h'
  go_enter Try.func73, Try.ntmps73
  go_wp2
  go_ret
  refine ⟨ret_bool ?_, rfl⟩
  have e : ∀ l : List UInt8, (strB l).toList = l := fun l => by
    simp [strB]
  rw [e, e]
  by_cases h : l = l' <;> simp [h]

set_option maxRecDepth 100000 in
set_option maxHeartbeats 2000000 in
theorem eqfun_any (a : Option Addr) (n c : Nat) (b : Option Addr) (m d : Nat) (l l' : List (List UInt8)) (w : World) (hn : n ≤ 5000) (h : Sl 1 (IsBs Nz) w a n l) (h' : Sl 1 (IsBs Nz) w b m l') (hm : m ≤ maxLen) :
    Calls Try.prog 72 #[.slice a n c, .slice b m d, .func (.func 73) #[] #[]] w fun e w' => e = .returned (.bool (decide (l = l'))) ∧ w = w' := by
  have HL := hide h.len
  have HM := hide h'.len
  unfold maxLen at hm
  go_enter Try.func72, Try.ntmps72
  by_cases hnm : n = m
  · subst hnm
    rcases h.secs with h0 | ⟨f, o, rfl, hc⟩
    · obtain rfl := h0
      clear h h'
      go_wp2
      refine wp_loop_rounds 1 ?_
      rw [rounds_succ]
      go_wp2
      go_ret
      exact ⟨ret_bool (by rw [List.eq_nil_of_length_eq_zero HL.out, List.eq_nil_of_length_eq_zero HM.out]; rfl), rfl⟩
    rcases h'.secs with h0 | ⟨f', o', rfl, hc'⟩
    · obtain rfl := h0
      clear h h'
      go_wp2
      refine wp_loop_rounds 1 ?_
      rw [rounds_succ]
      go_wp2
      go_ret
      exact ⟨ret_bool (by rw [List.eq_nil_of_length_eq_zero HL.out, List.eq_nil_of_length_eq_zero HM.out]; rfl), rfl⟩
    clear h h'
    have HC := hide hc
    have HC' := hide hc'
    clear hc hc'
    go_wp2
    go_loop [17] (fun i => ∃ k : Nat, k ≤ n ∧ i = .int .i64 k ∧ l.take k = l'.take k) (fun i => n - (intOf i).toNat)
    case atStart => exact ⟨0, Nat.zero_le _, rfl, by simp⟩
    case round =>
      obtain ⟨k, hk, rfl, hpre⟩ := hrel
      have HPRE := hide hpre
      clear hpre
      by_cases hlt : k < n
      · obtain ⟨x, hx⟩ := getElem?_of_lt HL.out hlt
        obtain ⟨y, hy⟩ := getElem?_of_lt HM.out hlt
        obtain ⟨xa, xn, xc, _, _, hxs, hcell⟩ := HC.out k x hx
        obtain ⟨ya, yn, yc, _, _, hys, hdell⟩ := HC'.out k y hy
        have HE := hide (equal_any xa xn xc ya yn yc x y w hxs hys)
        have HX := hide hx
        have HY := hide hy
        clear hx hy hxs hys
        cases hxy : decide (x = y)
        · rw [hxy] at HE
          have HN : Hid (decide (l = l') = false) := by
            show _ = _
            refine decide_eq_false ?_
            rintro rfl
            have := HX.out.symm.trans HY.out
            simp only [Option.some.injEq] at this
            simp [this] at hxy
          clear hxy
          go_wp2_with (go_at_call 73; refine HE.out.mono ?_; rintro e w' ⟨rfl, rfl⟩)
          go_ret
          exact ⟨ret_bool HN.out.symm, rfl⟩
        · rw [hxy] at HE
          have HN : Hid (l.take (k + 1) = l'.take (k + 1)) := by
            show _ = _
            rw [take_snoc l k x HX.out, take_snoc l' k y HY.out, HPRE.out, of_decide_eq_true hxy]
          clear hxy
          go_wp2_with (go_at_call 73; refine HE.out.mono ?_; rintro e w' ⟨rfl, rfl⟩)
          go_round
          case rel => exact ⟨k + 1, by omega, by go_num, HN.out⟩
          case measure => simp [intOf]; omega
      · obtain rfl : k = n := by omega
        clear HC HC'
        go_wp2
        go_ret
        exact ⟨ret_bool (by have := HPRE.out; rw [List.take_of_length_le (by have := HL.out; omega), List.take_of_length_le (by have := HM.out; omega)] at this; simp [this]), rfl⟩
  · have HN : Hid (decide (l = l') = false) := by
      show _ = _
      refine decide_eq_false ?_
      rintro rfl
      exact hnm (HL.out.symm.trans HM.out)
    clear h h'
    go_wp2
    go_ret
    exact ⟨ret_bool HN.out.symm, rfl⟩
end Go.Proofs.Ytjbkklkmjnfeeaa

/- Contracts of SameRecords and Same of the journal's reference. Plain theorems; no condition beyond the bounds that each states. -/
namespace Go.Proofs.Ytjbkklkmjnfeeaa
open Go.RowKit
variable {Nz : Nat}

theorem strB_list (l : List UInt8) : (strB l).toList = l := by simp [strB]

set_option maxRecDepth 100000 in
set_option maxHeartbeats 4000000 in
theorem samerecs_any (a : Option Addr) (n c : Nat) (b : Option Addr) (m d : Nat) (l l' : List (List UInt8)) (w : World) (hn : n ≤ 5000) (h : Sl 1 (IsBs Nz) w a n l) (h' : Sl 1 (IsBs Nz) w b m l') (hm : m ≤ maxLen) :
    Calls Try.prog 49 #[.slice a n c, .slice b m d] w fun e w' => e = .returned (.bool (decide (l = l'))) ∧ Below w.heap.size w w' := by
  have HL := hide h.len
  have HM := hide h'.len
  unfold maxLen at hm
  go_enter Try.func49, Try.ntmps49
  by_cases hnm : n = m
  · subst hnm
    have fin : l.take n = l'.take n → decide (l = l') = true := fun this => by
      rw [List.take_of_length_le (by have := HL.out; omega), List.take_of_length_le (by have := HM.out; omega)] at this
      simp [this]
    have FIN := hide fin
    have HC := hide h.secs
    have HC' := hide h'.secs
    clear h h' fin
    go_wp2
    go_loopw [5] (fun i wr => ∃ k : Nat, k ≤ n ∧ i = .int .i64 k ∧ l.take k = l'.take k ∧ Below w.heap.size w wr) (fun i _ => n - (intOf i).toNat)
    case atStart => exact ⟨0, Nat.zero_le _, rfl, by simp, Below.refl _ _⟩
    case round =>
      obtain ⟨k, hk, rfl, hpre, hB⟩ := hrel
      have HPRE := hide hpre
      clear hpre
      by_cases hlt : k < n
      · rcases HC.out with h0 | ⟨f, o, rfl, hc⟩
        · omega
        rcases HC'.out with h0 | ⟨f', o', rfl, hc'⟩
        · omega
        obtain ⟨x, hx⟩ := getElem?_of_lt HL.out hlt
        obtain ⟨y, hy⟩ := getElem?_of_lt HM.out hlt
        obtain ⟨xa, xn, xc, _, _, hxs, hcell⟩ := hc k x hx
        obtain ⟨ya, yn, yc, _, _, hys, hdell⟩ := hc' k y hy
        have s1 := below_cell hB hcell
        have s2 := below_cell hB hdell
        have t1 : ∀ q, (convert 35 9 (.slice xa xn xc)).run Try.prog (wr.drewN q) = .ok (.string (strB x)) (wr.drewN q) := fun q => conv_at hxs (below_drewN hB q)
        have t2 : ∀ q, (convert 35 9 (.slice ya yn yc)).run Try.prog (wr.drewN q) = .ok (.string (strB y)) (wr.drewN q) := fun q => conv_at hys (below_drewN hB q)
        have k0 : (0 : Int) ≤ (k : Int) := by omega
        have k1' : (k : Int) < (n : Int) := by omega
        have HX := hide hx
        have HY := hide hy
        clear hx hy hxs hys hc hc' hcell hdell
        by_cases hxy : x = y
        · have HN : Hid (l.take (k + 1) = l'.take (k + 1)) := by
            show _ = _
            rw [take_snoc l k x HX.out, take_snoc l' k y HY.out, HPRE.out, hxy]
          subst hxy
          go_wp2
          go_quiet (fail)
          go_wp2
          go_roundw
          case rel => exact ⟨k + 1, by omega, by go_num, HN.out, below_drewN hB nq⟩
          case measure => simp [intOf]; omega
        · have hs : ((strB x).toList == (strB y).toList) = false := by rw [strB_list, strB_list]; simpa using hxy
          have HN : Hid (decide (l = l') = false) := by
            show _ = _
            refine decide_eq_false ?_
            rintro rfl
            have := HX.out.symm.trans HY.out
            simp only [Option.some.injEq] at this
            exact hxy this
          clear hxy
          go_wp2
          go_quiet (fail)
          go_wp2
          go_ret
          exact ⟨ret_bool HN.out.symm, below_drewN hB nq⟩
      · obtain rfl : k = n := by omega
        clear HC HC'
        go_wp2
        go_ret
        exact ⟨ret_bool (FIN.out HPRE.out).symm, hB⟩
  · have HN : Hid (decide (l = l') = false) := by
      show _ = _
      refine decide_eq_false ?_
      rintro rfl
      exact hnm (HL.out.symm.trans HM.out)
    clear h h'
    go_wp2
    go_ret
    exact ⟨ret_bool HN.out.symm, Below.refl _ _⟩
end Go.Proofs.Ytjbkklkmjnfeeaa

/- The contract of good of package journal. Plain theorem; no condition beyond the bounds that it states. -/
namespace Go.Proofs.Ytjbkklkmjnfeeaa
open Go.RowKit
variable {Nz : Nat}

theorem formM_far {b : List UInt8} (h : 112 < lenM b) : formM b = false := by
  unfold formM; rw [decide_eq_false (show ¬ lenM b ≤ 112 by omega)]; rfl
theorem formM_kind {b : List UInt8} (h : 3 < kindM b) : formM b = false := by
  unfold formM; rw [decide_eq_false (show ¬ kindM b ≤ 3 by omega)]; simp
theorem formM_short {b : List UInt8} (h : kindM b < 2) (h2 : lenM b < 112) : formM b = false := by
  unfold formM; rw [decide_eq_false (show ¬ 2 ≤ kindM b by omega), decide_eq_false (show ¬ 112 ≤ lenM b by omega)]; simp
theorem formM_none {b : List UInt8} (h : kindM b % 2 = 0) (h2 : lenM b = 0) : formM b = false := by
  unfold formM; rw [decide_eq_false (show ¬ kindM b % 2 = 1 by omega), decide_eq_true h2]; simp
theorem formM_ok {b : List UInt8} (h1 : lenM b ≤ 112) (h2 : kindM b ≤ 3) (h3 : 2 ≤ kindM b ∨ 112 ≤ lenM b) (h4 : kindM b % 2 = 1 ∨ lenM b ≠ 0) : formM b = true := by
  simp [formM, h1, h2, h3, h4]
theorem goodM_form {b : List UInt8} {k : Nat} (h : formM b = false) : goodM b k = false := by simp [goodM, h]
theorem goodM_gen {b : List UInt8} {k : Nat} (h : genM b = 0) : goodM b k = false := by simp [goodM, h]
theorem goodM_eq {b : List UInt8} {k : Nat} (h : formM b = true) (h2 : 0 < genM b) : goodM b k = decide (b = secB (genM b) k (kindM b) (pieceM b)) := by simp [goodM, h, h2]

/-- A part of a slice of bytes. -/
theorem sl_cut {w : World} {f o n : Nat} {bs : List UInt8} (h : Sl 1 IsByte w (some ⟨f, o, none⟩) n bs) (i k : Nat) (hk : i + k ≤ n) : Sl 1 IsByte w (some ⟨f, o + i, none⟩) k ((bs.drop i).take k) := by
  have hl := h.len
  refine ⟨by simp; omega, .inr ⟨f, o + i, rfl, fun j x hx => ⟨[.int .u8 x.toNat], rfl, rfl, fun q v hv => ?_⟩⟩⟩
  match q, hv with
  | 0, hv =>
    simp only [List.getElem?_cons_zero, Option.some.injEq] at hv
    subst hv
    rw [List.getElem?_take] at hx
    split at hx
    · rw [List.getElem?_drop] at hx
      rcases h.bytes with h0 | ⟨b', o', e, hc⟩
      · omega
      · cases e
        have := hc (i + j) x hx
        rw [show o + (i + j) = o + i + j * 1 + 0 by omega] at this
        exact this
    · cases hx
/-- The two bytes of a sector that tell its form. -/
theorem sec_cells {w : World} {f o : Nat} {b : List UInt8} (h : Sl 1 IsByte w (some ⟨f, o, none⟩) 128 b) : w.cell? ⟨f, o + 10, none⟩ = some (.int .u8 (kindM b)) ∧ w.cell? ⟨f, o + 11, none⟩ = some (.int .u8 (lenM b)) := by
  have hl := h.len
  rcases h.bytes with h0 | ⟨b', o', e, hc⟩
  · omega
  · cases e
    obtain ⟨x, hx⟩ := getElem?_of_lt hl (show 10 < 128 by omega)
    obtain ⟨y, hy⟩ := getElem?_of_lt hl (show 11 < 128 by omega)
    have h1 := hc 10 x hx
    have h2 := hc 11 y hy
    simp only [kindM, lenM, List.getD, hx, hy, Option.getD_some]
    exact ⟨h1, h2⟩
theorem take_drop_zero (b : List UInt8) (k : Nat) : (b.drop 0).take k = b.take k := rfl

set_option maxRecDepth 100000 in
set_option maxHeartbeats 4000000 in
theorem good_any (f o c k : Nat) (b : List UInt8) (w : World) (hc : 128 ≤ c) (hk : k < 65536) (h : Sl 1 IsByte w (some ⟨f, o, none⟩) 128 b) :
    Calls Try.prog 83 #[.slice (some ⟨f, o, none⟩) 128 c, .int .i64 k] w fun e w' => e = .returned (.bool (goodM b k)) ∧ Below w.heap.size w w' := by
  obtain ⟨c10, c11⟩ := sec_cells h
  have HS := hide h
  obtain ⟨kd, hkd⟩ : ∃ kd, kd = kindM b := ⟨_, rfl⟩
  obtain ⟨m, hm⟩ : ∃ m, m = lenM b := ⟨_, rfl⟩
  rw [← hkd] at c10
  rw [← hm] at c11
  have hm256 : m < 256 := by rw [hm]; exact (b.getD 11 0).toNat_lt
  have hkd256 : kd < 256 := by rw [hkd]; exact (b.getD 10 0).toNat_lt
  have HF : Hid (∀ r : Bool, formM b = r → formM b = r) := fun _ h => h
  have KD := hide hkd
  have HM := hide hm
  have wm : IntKind.i64.wrap (m : Int) = (m : Int) := by rw [IntKind.wrap_i64]; omega
  have a02 : bits .and .u8 0 2 = 0 := by decide
  have a12 : bits .and .u8 1 2 = 0 := by decide
  have a22 : bits .and .u8 2 2 = 2 := by decide
  have a32 : bits .and .u8 3 2 = 2 := by decide
  have a01 : bits .and .u8 0 1 = 0 := by decide
  have a11 : bits .and .u8 1 1 = 1 := by decide
  have a21 : bits .and .u8 2 1 = 0 := by decide
  have a31 : bits .and .u8 3 1 = 1 := by decide
  clear h hkd hm
  go_enter Try.func83, Try.ntmps83
  go_upto_region 2 with (fail)
  go_cut [40] (fun s40 wx => s40 = .bool (!formM b) ∧ w = wx)
  case first =>
    have kd' := KD.out
    have m' := HM.out
    by_cases h1 : 112 < m
    · have HV : Hid (formM b = false) := formM_far (by omega)
      clear kd' m'
      go_wp2
      go_meet
      exact ⟨by rw [HV.out]; first | rfl | (simp; done) | (simp; omega), rfl⟩
    by_cases h2 : 3 < kd
    · have HV : Hid (formM b = false) := formM_kind (by omega)
      clear kd' m'
      go_wp2
      go_meet
      exact ⟨by rw [HV.out]; first | rfl | (simp; done) | (simp; omega), rfl⟩
    rcases (show kd = 0 ∨ kd = 1 ∨ kd = 2 ∨ kd = 3 by omega) with h3 | h3 | h3 | h3
    · replace c10 : w.cell? ⟨f, o + 10, none⟩ = some (.int .u8 0) := by rw [c10, h3]; rfl
      by_cases h4 : m < 112
      · have HV : Hid (formM b = false) := formM_short (by omega) (by omega)
        clear kd' m' h3
        go_wp2
        go_meet
        exact ⟨by rw [HV.out]; first | rfl | (simp; done) | (simp; omega), rfl⟩
      · have HV : Hid (formM b = true) := formM_ok (by omega) (by omega) (.inr (by omega)) (.inr (by omega))
        clear kd' m' h3
        go_wp2
        go_meet
        exact ⟨by rw [HV.out]; first | rfl | (simp; done) | (simp; omega), rfl⟩
    · replace c10 : w.cell? ⟨f, o + 10, none⟩ = some (.int .u8 1) := by rw [c10, h3]; rfl
      by_cases h4 : m < 112
      · have HV : Hid (formM b = false) := formM_short (by omega) (by omega)
        clear kd' m' h3
        go_wp2
        go_meet
        exact ⟨by rw [HV.out]; first | rfl | (simp; done) | (simp; omega), rfl⟩
      · have HV : Hid (formM b = true) := formM_ok (by omega) (by omega) (.inr (by omega)) (.inl (by omega))
        clear kd' m' h3
        go_wp2
        go_meet
        exact ⟨by rw [HV.out]; first | rfl | (simp; done) | (simp; omega), rfl⟩
    · replace c10 : w.cell? ⟨f, o + 10, none⟩ = some (.int .u8 2) := by rw [c10, h3]; rfl
      by_cases h4 : m = 0
      · have HV : Hid (formM b = false) := formM_none (by omega) (by omega)
        replace c11 : w.cell? ⟨f, o + 11, none⟩ = some (.int .u8 0) := by rw [c11, h4]; rfl
        clear kd' m' h3
        subst h4
        go_wp2
        go_meet
        exact ⟨by rw [HV.out]; first | rfl | (simp; done) | (simp; omega), rfl⟩
      · have HV : Hid (formM b = true) := formM_ok (by omega) (by omega) (.inl (by omega)) (.inr (by omega))
        clear kd' m' h3
        go_wp2
        go_meet
        exact ⟨by rw [HV.out]; first | rfl | (simp; done) | (simp; omega), rfl⟩
    · replace c10 : w.cell? ⟨f, o + 10, none⟩ = some (.int .u8 3) := by rw [c10, h3]; rfl
      have HV : Hid (formM b = true) := formM_ok (by omega) (by omega) (.inl (by omega)) (.inl (by omega))
      clear kd' m' h3
      go_wp2
      go_meet
      exact ⟨by rw [HV.out]; first | rfl | (simp; done) | (simp; omega), rfl⟩
  case rest =>
  obtain ⟨rfl, rfl⟩ := hcut
  clear a02 a12 a22 a32 a01 a11 a21 a31
  cases hf : formM b
  · have HV : Hid (goodM b k = false) := goodM_form hf
    clear hf
    go_wp2
    go_ret
    exact ⟨ret_bool HV.out.symm, Below.refl _ _⟩
  · have hm112 : m ≤ 112 := by
      have h1 := HM.out
      rcases Nat.lt_or_ge 112 (lenM b) with h2 | h2
      · rw [formM_far h2] at hf; cases hf
      · omega
    obtain ⟨g, hg⟩ : ∃ g, g = genM b := ⟨_, rfl⟩
    have hgl : g < 4294967296 := by
      rw [hg]
      have h1 := numM_lt (b.take 4)
      have h2 : (b.take 4).length = 4 := by simp; have := HS.out.len; omega
      rw [h2] at h1
      exact h1
    have HG : Hid (∀ c' : Nat, Calls Try.prog 71 #[.slice (some ⟨f, o, none⟩) 4 c'] w fun e w' => e = .returned (.int .u64 g) ∧ w = w') := fun c' => by
      rw [hg]
      exact get_any _ 4 c' (b.take 4) w (by omega) (sl_cut HS.out 0 4 (by omega))
    have GG := hide hg
    have HFO := hide hf
    clear hf hg HF
    go_wp2_with fail
    refine (HG.out _).mono ?_
    rintro e w' ⟨rfl, rfl⟩
    by_cases hg0 : g = 0
    · have HV : Hid (goodM b k = false) := goodM_gen (by rw [← GG.out]; exact hg0)
      subst hg0
      go_wp2_with fail
      go_quiet (fail)
      go_wp2
      go_ret
      exact ⟨ret_bool HV.out.symm, below_drewN (Below.refl _ w) nq⟩
    · have HV : Hid (goodM b k = decide (b = secB g k kd (pieceM b))) := by
        show _ = _
        rw [goodM_eq HFO.out (by rw [← GG.out]; omega), ← GG.out, ← KD.out]
      obtain ⟨S, hS⟩ : ∃ S, S = secB g k kd (pieceM b) := ⟨_, rfl⟩
      have hSl : S.length = 128 := by
        rw [hS]
        refine secB_length _ _ _ ?_
        unfold pieceM
        rw [← HM.out]
        simp
        omega
      have HP : Hid (∀ W, Below w.heap.size w W → Sl 1 IsByte W (some ⟨f, o + 12, none⟩) m (pieceM b)) := fun W hW => by
        unfold pieceM
        rw [← HM.out]
        exact sl_cut (HS.out.below IsByte.keeps hW) 12 m (by omega)
      have HE : Hid (∀ c' W, Below w.heap.size w W → Calls Try.prog 74 #[.int .u64 g, .int .i64 k, .int .u8 kd, .slice (some ⟨f, o + 12, none⟩) m c'] W fun e w' => e = .returned (.slice (some ⟨W.heap.size, 0, none⟩) 128 128) ∧ RowIs w' W.heap.size 111 (byteVals S) ∧ Below W.heap.size W w') := fun c' W hW => by
        rw [hS]
        exact encode_any g k kd _ m c' (pieceM b) W (by omega) hk hkd256 hm112 (HP.out W hW)
      have HQ : Hid (∀ W B, Below w.heap.size w W → RowIs W B 111 (byteVals S) → Calls Try.prog 73 #[.slice (some ⟨f, o, none⟩) 128 c, .slice (some ⟨B, 0, none⟩) 128 128] W fun e w' => e = .returned (.bool (decide (b = S))) ∧ W = w') := fun W B hW hB =>
        equal_any _ _ _ _ _ _ _ _ W (HS.out.below IsByte.keeps hW) (sl_bytes_row S 128 hSl hB)
      have w12 : IntKind.i64.wrap (12 + (m : Int)) = 12 + (m : Int) := by rw [IntKind.wrap_i64]; omega
      have SS := hide hS
      have SL := hide hSl
      have hd : Below w.heap.size w w.drew := (Below.refl _ w).drew
      rw [← hS] at HV
      have hgA : decide ((0 : Int) < (g : Int)) = true := by simp; omega
      have hgB : decide (0 < g) = true := by simp; omega
      have hgC : 0 < g := by omega
      have s1 : (0 : Int) ≤ 12 + (m : Int) := by omega
      have s2 : 12 + (m : Int) ≤ (c : Int) := by omega
      have s3 : (12 : Int) ≤ 12 + (m : Int) := by omega
      have s4 : ¬ c = 12 := by omega
      have s5 : (12 + (m : Int)).toNat = 12 + m := by omega
      clear hS hSl
      go_wp2_with fail
      go_region_held3 (fun W => W.cell? ⟨f, o + 10, none⟩ = some (.int .u8 kd))
        (first | exact below_cell hBb ‹_› | go_keep)
        (first
          | (go_at_call 74; refine (HE.out _ _ hd).mono ?_; rintro e w2 ⟨rfl, hr, hBb⟩; have HR := hide hr; clear hr)
          | (go_at_call 73; refine (HQ.out _ _ (hd.trans hBb) HR.out).mono ?_; rintro e w' ⟨rfl, rfl⟩))
      go_wp2
      go_ret
      exact ⟨ret_bool HV.out.symm, hd.trans hBb⟩
end Go.Proofs.Ytjbkklkmjnfeeaa

/- The contract of good of the journal's reference. Plain theorem; no condition beyond the bounds that it states. -/
namespace Go.Proofs.Ytjbkklkmjnfeeaa
open Go.RowKit
variable {Nz : Nat}

set_option maxRecDepth 100000 in
set_option maxHeartbeats 8000000 in
theorem rgood_any (f o c k : Nat) (b : List UInt8) (w : World) (hc : 128 ≤ c) (hk : k < 65536) (h : Sl 1 IsByte w (some ⟨f, o, none⟩) 128 b) :
    Calls Try.prog 92 #[.slice (some ⟨f, o, none⟩) 128 c, .int .i64 k] w fun e w' => e = .returned (.bool (goodM b k)) ∧ ∃ z, w' = w.drewN z := by
  obtain ⟨c10, c11⟩ := sec_cells h
  have hbl := h.len
  obtain ⟨kd, hkd⟩ : ∃ kd, kd = kindM b := ⟨_, rfl⟩
  obtain ⟨m, hm⟩ : ∃ m, m = lenM b := ⟨_, rfl⟩
  rw [← hkd] at c10
  rw [← hm] at c11
  have hm256 : m < 256 := by rw [hm]; exact (b.getD 11 0).toNat_lt
  have hkd256 : kd < 256 := by rw [hkd]; exact (b.getD 10 0).toNat_lt
  obtain ⟨g, hg⟩ : ∃ g, g = genM b := ⟨_, rfl⟩
  obtain ⟨t, ht⟩ : ∃ t, t = tailM b := ⟨_, rfl⟩
  obtain ⟨q, hq⟩ : ∃ q, q = numM ((b.drop 4).take 4) := ⟨_, rfl⟩
  obtain ⟨r, hr⟩ : ∃ r, r = numM ((b.drop 8).take 2) := ⟨_, rfl⟩
  obtain ⟨s, hs⟩ : ∃ s, s = crcM ((b.drop 8).take 116) := ⟨_, rfl⟩
  have hgl : g < 4294967296 := by
    have h1 := numM_lt (b.take 4)
    rw [show (b.take 4).length = 4 by simp; omega] at h1
    rw [hg]; exact h1
  have hql : q < 4294967296 := by
    have h1 := numM_lt ((b.drop 4).take 4)
    rw [show ((b.drop 4).take 4).length = 4 by simp; omega] at h1
    rw [hq]; exact h1
  have hrl : r < 65536 := by
    have h1 := numM_lt ((b.drop 8).take 2)
    rw [show ((b.drop 8).take 2).length = 2 by simp; omega] at h1
    rw [hr]; exact h1
  have htl : t < 4294967296 := by
    have h1 := numM_lt (b.drop 124)
    rw [show (b.drop 124).length = 4 by simp; omega] at h1
    rw [ht]; exact h1
  have hsl : s < 4294967296 := by rw [hs]; exact crcM_lt _
  have B0 : Hid (∀ (c' : Nat) W, Below w.heap.size w W → Calls Try.prog 85 #[.slice (some ⟨f, o, none⟩) 4 c'] W fun e w' => e = .returned (.int .u64 g) ∧ w' = W) := fun c' W hW => by
    rw [hg]
    exact (number_any _ 4 c' (b.take 4) W (by omega) (sl_cut (h.below IsByte.keeps hW) 0 4 (by omega))).mono fun _ _ ⟨h1, h2⟩ => ⟨h1, h2.symm⟩
  have B1 : Hid (∀ (c' : Nat) W, Below w.heap.size w W → Calls Try.prog 85 #[.slice (some ⟨f, o + 124, none⟩) 4 c'] W fun e w' => e = .returned (.int .u64 t) ∧ w' = W) := fun c' W hW => by
    have h1 : (b.drop 124).take 4 = b.drop 124 := List.take_of_length_le (by simp; omega)
    rw [ht, tailM, ← h1]
    exact (number_any _ 4 c' _ W (by omega) (sl_cut (h.below IsByte.keeps hW) 124 4 (by omega))).mono fun _ _ ⟨h1, h2⟩ => ⟨h1, h2.symm⟩
  have B2 : Hid (∀ (c' : Nat) W, Below w.heap.size w W → Calls Try.prog 85 #[.slice (some ⟨f, o + 4, none⟩) 4 c'] W fun e w' => e = .returned (.int .u64 q) ∧ w' = W) := fun c' W hW => by
    rw [hq]
    exact (number_any _ 4 c' _ W (by omega) (sl_cut (h.below IsByte.keeps hW) 4 4 (by omega))).mono fun _ _ ⟨h1, h2⟩ => ⟨h1, h2.symm⟩
  have B3 : Hid (∀ (c' : Nat) W, Below w.heap.size w W → Calls Try.prog 85 #[.slice (some ⟨f, o + 8, none⟩) 2 c'] W fun e w' => e = .returned (.int .u64 r) ∧ w' = W) := fun c' W hW => by
    rw [hr]
    exact (number_any _ 2 c' _ W (by omega) (sl_cut (h.below IsByte.keeps hW) 8 2 (by omega))).mono fun _ _ ⟨h1, h2⟩ => ⟨h1, h2.symm⟩
  have B4 : Hid (∀ (c' : Nat) W, Below w.heap.size w W → Calls Try.prog 89 #[.slice (some ⟨f, o + 8, none⟩) 116 c'] W fun e w' => e = .returned (.int .u32 s) ∧ w' = W) := fun c' W hW => by
    rw [hs]
    exact (rsum_any _ 116 c' _ W (by omega) (sl_cut (h.below IsByte.keeps hW) 8 116 (by omega))).mono fun _ _ ⟨h1, h2⟩ => ⟨h1, h2.symm⟩
  have HG : Hid (∀ z, goodM b k = z ↔ (formM b && decide (0 < g) && decide (g = t) && decide (q = s) && decide (r = k) && decide ((b.drop (12 + m)).take (112 - m) = List.replicate (112 - m) 0)) = z) := fun z => by
    rw [← good_eq hbl hk, rgoodM, hg, ht, hq, hr, hs, hm]
  have HF : Hid (∀ z, formM b = z ↔ (decide (m ≤ 112) && decide (kd ≤ 3) && (decide (2 ≤ kd) || decide (112 ≤ m)) && (decide (kd % 2 = 1) || !decide (m = 0))) = z) := fun z => by
    rw [formM, hkd, hm]
  have HS := hide h
  have wm : IntKind.i64.wrap (m : Int) = (m : Int) := by rw [IntKind.wrap_i64]; omega
  have wq : IntKind.u32.wrap (q : Int) = (q : Int) := by rw [IntKind.wrap_u32]; omega
  have wk : IntKind.u64.wrap (k : Int) = (k : Int) := by rw [IntKind.wrap_u64]; omega
  have wn : IntKind.i64.wrap (12 + (m : Int)) = 12 + (m : Int) := by rw [IntKind.wrap_i64]; omega
  have HBL := hide hbl
  have HM := hide hm
  clear h hkd hm hg ht hq hr hs hbl
  go_enter Try.func92, Try.ntmps92
  go_upto_region 2 with (fail)
  go_cut [72] (fun s72 wx => s72 = .bool (!(formM b && decide (0 < g) && decide (g = t) && decide (q = s) && decide (r = k))) ∧ ∃ z, wx = w.drewN z)
  case first =>
    refine wp_region_quiet_lit (by kernel_rfl) (by kernel_rfl) ?_
    by_cases h1 : g = 0
    · have HV : Hid ((formM b && decide (0 < g) && decide (g = t) && decide (q = s) && decide (r = k)) = false) := by show _ = _; rw [decide_eq_false (show ¬ 0 < g by omega)]; simp
      have z1 : ((g : Int) == 0) = true := by simp; omega
      have z2 : (g == 0) = true := by simp; omega
      repeat (go_big_quiet_step ((first | (go_at_call 85; first | with_reducible exact Calls.quiet_of_same (B0.out _ _ (below_drewN (Below.refl _ w) _)) | with_reducible exact Calls.quiet_of_same (B1.out _ _ (below_drewN (Below.refl _ w) _)) | with_reducible exact Calls.quiet_of_same (B2.out _ _ (below_drewN (Below.refl _ w) _)) | with_reducible exact Calls.quiet_of_same (B3.out _ _ (below_drewN (Below.refl _ w) _))) | (go_at_call 89; with_reducible exact Calls.quiet_of_same (B4.out _ _ (below_drewN (Below.refl _ w) _))))))
      refine wpQuiet_nil ?_
      intro _ ⟨nq, hnq⟩
      subst hnq
      go_wp2
      go_meet
      exact ⟨by first | rw [HV.out] | rw [HE.out, HV.out]
                first | rfl | (simp; done) | (simp; omega), nq, rfl⟩
    have z1 : ((g : Int) == 0) = false := by simp; omega
    have z2 : (g == 0) = false := by simp; omega
    by_cases h1 : g = t
    rotate_left
    · have HV : Hid ((formM b && decide (0 < g) && decide (g = t) && decide (q = s) && decide (r = k)) = false) := by show _ = _; rw [decide_eq_false h1]; simp
      have z3 : ((g : Int) == (t : Int)) = false := by simp; omega
      have z4 : ((g : Int) != (t : Int)) = true := by simp; omega
      have z5 : (g == t) = false := by simp; omega
      repeat (go_big_quiet_step ((first | (go_at_call 85; first | with_reducible exact Calls.quiet_of_same (B0.out _ _ (below_drewN (Below.refl _ w) _)) | with_reducible exact Calls.quiet_of_same (B1.out _ _ (below_drewN (Below.refl _ w) _)) | with_reducible exact Calls.quiet_of_same (B2.out _ _ (below_drewN (Below.refl _ w) _)) | with_reducible exact Calls.quiet_of_same (B3.out _ _ (below_drewN (Below.refl _ w) _))) | (go_at_call 89; with_reducible exact Calls.quiet_of_same (B4.out _ _ (below_drewN (Below.refl _ w) _))))))
      refine wpQuiet_nil ?_
      intro _ ⟨nq, hnq⟩
      subst hnq
      go_wp2
      go_meet
      exact ⟨by first | rw [HV.out] | rw [HE.out, HV.out]
                first | rfl | (simp; done) | (simp; omega), nq, rfl⟩
    subst h1
    by_cases h1 : q = s
    rotate_left
    · have HV : Hid ((formM b && decide (0 < g) && decide (g = g) && decide (q = s) && decide (r = k)) = false) := by show _ = _; rw [decide_eq_false h1]; simp
      have z3 : ((q : Int) == (s : Int)) = false := by simp; omega
      have z4 : ((q : Int) != (s : Int)) = true := by simp; omega
      have z5 : (q == s) = false := by simp; omega
      repeat (go_big_quiet_step ((first | (go_at_call 85; first | with_reducible exact Calls.quiet_of_same (B0.out _ _ (below_drewN (Below.refl _ w) _)) | with_reducible exact Calls.quiet_of_same (B1.out _ _ (below_drewN (Below.refl _ w) _)) | with_reducible exact Calls.quiet_of_same (B2.out _ _ (below_drewN (Below.refl _ w) _)) | with_reducible exact Calls.quiet_of_same (B3.out _ _ (below_drewN (Below.refl _ w) _))) | (go_at_call 89; with_reducible exact Calls.quiet_of_same (B4.out _ _ (below_drewN (Below.refl _ w) _))))))
      refine wpQuiet_nil ?_
      intro _ ⟨nq, hnq⟩
      subst hnq
      go_wp2
      go_meet
      exact ⟨by first | rw [HV.out] | rw [HE.out, HV.out]
                first | rfl | (simp; done) | (simp; omega), nq, rfl⟩
    subst h1
    by_cases h1 : r = k
    rotate_left
    · have HV : Hid ((formM b && decide (0 < g) && decide (g = g) && decide (q = q) && decide (r = k)) = false) := by show _ = _; rw [decide_eq_false h1]; simp
      have z3 : ((r : Int) == (k : Int)) = false := by simp; omega
      have z4 : ((r : Int) != (k : Int)) = true := by simp; omega
      have z5 : (r == k) = false := by simp; omega
      repeat (go_big_quiet_step ((first | (go_at_call 85; first | with_reducible exact Calls.quiet_of_same (B0.out _ _ (below_drewN (Below.refl _ w) _)) | with_reducible exact Calls.quiet_of_same (B1.out _ _ (below_drewN (Below.refl _ w) _)) | with_reducible exact Calls.quiet_of_same (B2.out _ _ (below_drewN (Below.refl _ w) _)) | with_reducible exact Calls.quiet_of_same (B3.out _ _ (below_drewN (Below.refl _ w) _))) | (go_at_call 89; with_reducible exact Calls.quiet_of_same (B4.out _ _ (below_drewN (Below.refl _ w) _))))))
      refine wpQuiet_nil ?_
      intro _ ⟨nq, hnq⟩
      subst hnq
      go_wp2
      go_meet
      exact ⟨by first | rw [HV.out] | rw [HE.out, HV.out]
                first | rfl | (simp; done) | (simp; omega), nq, rfl⟩
    subst h1
    have HE : Hid ((formM b && decide (0 < g) && decide (g = g) && decide (q = q) && decide (r = r)) = formM b) := by show _ = _; rw [decide_eq_true (show 0 < g by omega)]; simp
    by_cases h2 : 3 < kd
    · have HV : Hid (formM b = false) := (HF.out false).2 (by rw [decide_eq_false (show ¬ kd ≤ 3 by omega)]; simp)
      have z6 : (3 : Int) < (kd : Int) := by omega
      repeat (go_big_quiet_step ((first | (go_at_call 85; first | with_reducible exact Calls.quiet_of_same (B0.out _ _ (below_drewN (Below.refl _ w) _)) | with_reducible exact Calls.quiet_of_same (B1.out _ _ (below_drewN (Below.refl _ w) _)) | with_reducible exact Calls.quiet_of_same (B2.out _ _ (below_drewN (Below.refl _ w) _)) | with_reducible exact Calls.quiet_of_same (B3.out _ _ (below_drewN (Below.refl _ w) _))) | (go_at_call 89; with_reducible exact Calls.quiet_of_same (B4.out _ _ (below_drewN (Below.refl _ w) _))))))
      refine wpQuiet_nil ?_
      intro _ ⟨nq, hnq⟩
      subst hnq
      go_wp2
      go_meet
      exact ⟨by first | rw [HV.out] | rw [HE.out, HV.out]
                first | rfl | (simp; done) | (simp; omega), nq, rfl⟩
    by_cases h3 : 112 < m
    · have HV : Hid (formM b = false) := (HF.out false).2 (by rw [decide_eq_false (show ¬ m ≤ 112 by omega)]; simp)
      have z6 : ¬ (3 : Int) < (kd : Int) := by omega
      have z7 : (112 : Int) < (m : Int) := by omega
      repeat (go_big_quiet_step ((first | (go_at_call 85; first | with_reducible exact Calls.quiet_of_same (B0.out _ _ (below_drewN (Below.refl _ w) _)) | with_reducible exact Calls.quiet_of_same (B1.out _ _ (below_drewN (Below.refl _ w) _)) | with_reducible exact Calls.quiet_of_same (B2.out _ _ (below_drewN (Below.refl _ w) _)) | with_reducible exact Calls.quiet_of_same (B3.out _ _ (below_drewN (Below.refl _ w) _))) | (go_at_call 89; with_reducible exact Calls.quiet_of_same (B4.out _ _ (below_drewN (Below.refl _ w) _))))))
      refine wpQuiet_nil ?_
      intro _ ⟨nq, hnq⟩
      subst hnq
      go_wp2
      go_meet
      exact ⟨by first | rw [HV.out] | rw [HE.out, HV.out]
                first | rfl | (simp; done) | (simp; omega), nq, rfl⟩
    have z7 : ¬ (112 : Int) < (m : Int) := by omega
    rcases (show kd = 0 ∨ kd = 1 ∨ kd = 2 ∨ kd = 3 by omega) with h4 | h4 | h4 | h4
    · replace c10 : w.cell? ⟨f, o + 10, none⟩ = some (.int .u8 0) := by rw [c10, h4]; rfl
      by_cases h5 : m = 112
      · have HV : Hid (formM b = true) := (HF.out true).2 (by subst h4; simp; try omega)
        subst h5
        clear h4
        repeat (go_big_quiet_step ((first | (go_at_call 85; first | with_reducible exact Calls.quiet_of_same (B0.out _ _ (below_drewN (Below.refl _ w) _)) | with_reducible exact Calls.quiet_of_same (B1.out _ _ (below_drewN (Below.refl _ w) _)) | with_reducible exact Calls.quiet_of_same (B2.out _ _ (below_drewN (Below.refl _ w) _)) | with_reducible exact Calls.quiet_of_same (B3.out _ _ (below_drewN (Below.refl _ w) _))) | (go_at_call 89; with_reducible exact Calls.quiet_of_same (B4.out _ _ (below_drewN (Below.refl _ w) _))))))
        refine wpQuiet_nil ?_
        intro _ ⟨nq, hnq⟩
        subst hnq
        go_wp2
        go_meet
        exact ⟨by first | rw [HV.out] | rw [HE.out, HV.out]
                  first | rfl | (simp; done) | (simp; omega), nq, rfl⟩
      · have HV : Hid (formM b = false) := (HF.out false).2 (by subst h4; simp; try omega)
        have z8 : ((m : Int) == 112) = false := by simp; omega
        have z9 : ((m : Int) != 112) = true := by simp; omega
        have z10 : (m == 112) = false := by simp; omega
        clear h4
        repeat (go_big_quiet_step ((first | (go_at_call 85; first | with_reducible exact Calls.quiet_of_same (B0.out _ _ (below_drewN (Below.refl _ w) _)) | with_reducible exact Calls.quiet_of_same (B1.out _ _ (below_drewN (Below.refl _ w) _)) | with_reducible exact Calls.quiet_of_same (B2.out _ _ (below_drewN (Below.refl _ w) _)) | with_reducible exact Calls.quiet_of_same (B3.out _ _ (below_drewN (Below.refl _ w) _))) | (go_at_call 89; with_reducible exact Calls.quiet_of_same (B4.out _ _ (below_drewN (Below.refl _ w) _))))))
        refine wpQuiet_nil ?_
        intro _ ⟨nq, hnq⟩
        subst hnq
        go_wp2
        go_meet
        exact ⟨by first | rw [HV.out] | rw [HE.out, HV.out]
                  first | rfl | (simp; done) | (simp; omega), nq, rfl⟩
    · replace c10 : w.cell? ⟨f, o + 10, none⟩ = some (.int .u8 1) := by rw [c10, h4]; rfl
      by_cases h5 : m = 112
      · have HV : Hid (formM b = true) := (HF.out true).2 (by subst h4; simp; try omega)
        subst h5
        clear h4
        repeat (go_big_quiet_step ((first | (go_at_call 85; first | with_reducible exact Calls.quiet_of_same (B0.out _ _ (below_drewN (Below.refl _ w) _)) | with_reducible exact Calls.quiet_of_same (B1.out _ _ (below_drewN (Below.refl _ w) _)) | with_reducible exact Calls.quiet_of_same (B2.out _ _ (below_drewN (Below.refl _ w) _)) | with_reducible exact Calls.quiet_of_same (B3.out _ _ (below_drewN (Below.refl _ w) _))) | (go_at_call 89; with_reducible exact Calls.quiet_of_same (B4.out _ _ (below_drewN (Below.refl _ w) _))))))
        refine wpQuiet_nil ?_
        intro _ ⟨nq, hnq⟩
        subst hnq
        go_wp2
        go_meet
        exact ⟨by first | rw [HV.out] | rw [HE.out, HV.out]
                  first | rfl | (simp; done) | (simp; omega), nq, rfl⟩
      · have HV : Hid (formM b = false) := (HF.out false).2 (by subst h4; simp; try omega)
        have z8 : ((m : Int) == 112) = false := by simp; omega
        have z9 : ((m : Int) != 112) = true := by simp; omega
        have z10 : (m == 112) = false := by simp; omega
        clear h4
        repeat (go_big_quiet_step ((first | (go_at_call 85; first | with_reducible exact Calls.quiet_of_same (B0.out _ _ (below_drewN (Below.refl _ w) _)) | with_reducible exact Calls.quiet_of_same (B1.out _ _ (below_drewN (Below.refl _ w) _)) | with_reducible exact Calls.quiet_of_same (B2.out _ _ (below_drewN (Below.refl _ w) _)) | with_reducible exact Calls.quiet_of_same (B3.out _ _ (below_drewN (Below.refl _ w) _))) | (go_at_call 89; with_reducible exact Calls.quiet_of_same (B4.out _ _ (below_drewN (Below.refl _ w) _))))))
        refine wpQuiet_nil ?_
        intro _ ⟨nq, hnq⟩
        subst hnq
        go_wp2
        go_meet
        exact ⟨by first | rw [HV.out] | rw [HE.out, HV.out]
                  first | rfl | (simp; done) | (simp; omega), nq, rfl⟩
    · replace c10 : w.cell? ⟨f, o + 10, none⟩ = some (.int .u8 2) := by rw [c10, h4]; rfl
      by_cases h5 : m = 0
      · have HV : Hid (formM b = false) := (HF.out false).2 (by subst h4; simp; try omega)
        subst h5
        clear h4
        repeat (go_big_quiet_step ((first | (go_at_call 85; first | with_reducible exact Calls.quiet_of_same (B0.out _ _ (below_drewN (Below.refl _ w) _)) | with_reducible exact Calls.quiet_of_same (B1.out _ _ (below_drewN (Below.refl _ w) _)) | with_reducible exact Calls.quiet_of_same (B2.out _ _ (below_drewN (Below.refl _ w) _)) | with_reducible exact Calls.quiet_of_same (B3.out _ _ (below_drewN (Below.refl _ w) _))) | (go_at_call 89; with_reducible exact Calls.quiet_of_same (B4.out _ _ (below_drewN (Below.refl _ w) _))))))
        refine wpQuiet_nil ?_
        intro _ ⟨nq, hnq⟩
        subst hnq
        go_wp2
        go_meet
        exact ⟨by first | rw [HV.out] | rw [HE.out, HV.out]
                  first | rfl | (simp; done) | (simp; omega), nq, rfl⟩
      · have HV : Hid (formM b = true) := (HF.out true).2 (by subst h4; simp; try omega)
        have z8 : ((m : Int) == 0) = false := by simp; omega
        have z9 : ((m : Int) != 0) = true := by simp; omega
        have z10 : (m == 0) = false := by simp; omega
        clear h4
        repeat (go_big_quiet_step ((first | (go_at_call 85; first | with_reducible exact Calls.quiet_of_same (B0.out _ _ (below_drewN (Below.refl _ w) _)) | with_reducible exact Calls.quiet_of_same (B1.out _ _ (below_drewN (Below.refl _ w) _)) | with_reducible exact Calls.quiet_of_same (B2.out _ _ (below_drewN (Below.refl _ w) _)) | with_reducible exact Calls.quiet_of_same (B3.out _ _ (below_drewN (Below.refl _ w) _))) | (go_at_call 89; with_reducible exact Calls.quiet_of_same (B4.out _ _ (below_drewN (Below.refl _ w) _))))))
        refine wpQuiet_nil ?_
        intro _ ⟨nq, hnq⟩
        subst hnq
        go_wp2
        go_meet
        exact ⟨by first | rw [HV.out] | rw [HE.out, HV.out]
                  first | rfl | (simp; done) | (simp; omega), nq, rfl⟩
    · replace c10 : w.cell? ⟨f, o + 10, none⟩ = some (.int .u8 3) := by rw [c10, h4]; rfl
      have HV : Hid (formM b = true) := (HF.out true).2 (by subst h4; simp; try omega)
      clear h4
      repeat (go_big_quiet_step ((first | (go_at_call 85; first | with_reducible exact Calls.quiet_of_same (B0.out _ _ (below_drewN (Below.refl _ w) _)) | with_reducible exact Calls.quiet_of_same (B1.out _ _ (below_drewN (Below.refl _ w) _)) | with_reducible exact Calls.quiet_of_same (B2.out _ _ (below_drewN (Below.refl _ w) _)) | with_reducible exact Calls.quiet_of_same (B3.out _ _ (below_drewN (Below.refl _ w) _))) | (go_at_call 89; with_reducible exact Calls.quiet_of_same (B4.out _ _ (below_drewN (Below.refl _ w) _))))))
      refine wpQuiet_nil ?_
      intro _ ⟨nq, hnq⟩
      subst hnq
      go_wp2
      go_meet
      exact ⟨by first | rw [HV.out] | rw [HE.out, HV.out]
                first | rfl | (simp; done) | (simp; omega), nq, rfl⟩
  case rest =>
  obtain ⟨rfl, z0, hz0⟩ := hcut
  obtain ⟨w1, hw1⟩ : ∃ w1, w1 = wc := ⟨_, rfl⟩
  rw [← hw1] at hz0 ⊢
  have hB : Below w.heap.size w w1 := by rw [hz0]; exact below_drewN (Below.refl _ w) z0
  have HZ0 := hide hz0
  clear hz0
  have HS1 := hide (HS.out.below IsByte.keeps hB)
  clear hw1 B0 B1 B2 B3 B4 wq wk HF
  cases hv : (formM b && decide (0 < g) && decide (g = t) && decide (q = s) && decide (r = k))
  · have HV : Hid (goodM b k = false) := (HG.out false).2 (by rw [hv]; rfl)
    clear hv HG
    go_wp2
    go_ret
    exact ⟨ret_bool HV.out.symm, z0, HZ0.out⟩
  · have hm112 : m ≤ 112 := by
      simp only [Bool.and_eq_true] at hv
      rcases Nat.lt_or_ge 112 m with h2 | h2
      · have h3 := hv.1.1.1.1
        rw [formM_far (by rw [← HM.out]; exact h2)] at h3
        cases h3
      · exact h2
    have HV : Hid (goodM b k = decide ((b.drop (12 + m)).take (112 - m) = List.replicate (112 - m) 0)) := by
      show _ = _
      refine (HG.out _).2 ?_
      rw [hv]
      simp
    have HX : Hid (∀ j, j ≤ 111 - m → m ≤ 111 → ∃ x : UInt8, b[12 + m + j]? = some x ∧ w1.cell? ⟨f, o + (12 + m + j), none⟩ = some (.int .u8 x.toNat)) := fun j hj hm => by
      obtain ⟨x, hx⟩ := getElem?_of_lt HBL.out (show 12 + m + j < 128 by omega)
      rcases HS1.out.bytes with h0 | ⟨b', o', e, hc⟩
      · omega
      · cases e
        exact ⟨x, hx, hc _ x hx⟩
    clear hv HG
    go_wp2
    go_loop [6] (fun i => ∃ j : Nat, j ≤ 112 - m ∧ i = .int .i64 ((12 + m + j : Nat) : Int) ∧ (b.drop (12 + m)).take j = List.replicate j 0) (fun i => 124 - (intOf i).toNat)
    case atStart => exact ⟨0, Nat.zero_le _, by simp, by simp⟩
    case round =>
      obtain ⟨j, hj, rfl, hz⟩ := hrel
      have HZ := hide hz
      clear hz
      by_cases hlt : j < 112 - m
      · obtain ⟨x, hx, hcell⟩ := HX.out j (by omega) (by omega)
        obtain ⟨i, hi⟩ : ∃ i, i = 12 + m + j := ⟨_, rfl⟩
        have hx2 : (b.drop (12 + m))[j]? = some x := by rw [List.getElem?_drop]; exact hx
        have hsn := take_snoc (b.drop (12 + m)) j x hx2
        rw [← hi] at hcell ⊢
        have HSN := hide hsn
        have HX2 := hide hx2
        obtain ⟨xx, hxx⟩ : ∃ xx, xx = x.toNat := ⟨_, rfl⟩
        rw [← hxx] at hcell
        have i1 : i < 124 := by omega
        have i2 : (i : Int) < 124 := by omega
        have HI := hide hi
        have HXX := hide hxx
        clear hx hx2 hsn hi hxx
        by_cases h0 : xx = 0
        · have HN : Hid ((b.drop (12 + m)).take (j + 1) = List.replicate (j + 1) 0) := by
            show _ = _
            rw [HSN.out, HZ.out, show x = 0 from UInt8.toNat_inj.1 (by rw [← HXX.out, h0]; rfl), List.replicate_succ']
          subst h0
          go_wp2
          go_round
          case rel => exact ⟨j + 1, by omega, by rw [HI.out]; go_num, HN.out⟩
          case measure => simp [intOf]; omega
        · have HN : Hid (goodM b k = false) := by
            show _ = _
            rw [HV.out]
            refine decide_eq_false fun h => ?_
            have h1 : ((b.drop (12 + m)).take (112 - m))[j]? = some x := by rw [List.getElem?_take, if_pos hlt]; exact HX2.out
            rw [h, List.getElem?_replicate, if_pos hlt] at h1
            simp only [Option.some.injEq] at h1
            exact h0 (by rw [HXX.out, ← h1]; rfl)
          have z1 : ((xx : Int) == 0) = false := by simp; omega
          go_wp2
          go_ret
          exact ⟨ret_bool HN.out.symm, z0, HZ0.out⟩
      · have hj2 : j = 112 - m := by omega
        have HN : Hid (goodM b k = true) := by
          show _ = _
          rw [HV.out, ← hj2, HZ.out]
          simp
        have e : ((12 + m + j : Nat) : Int) = 124 := by omega
        rw [e]
        clear hj2 e HX
        go_wp2
        go_ret
        exact ⟨ret_bool HN.out.symm, z0, HZ0.out⟩
end Go.Proofs.Ytjbkklkmjnfeeaa

/- The contract of record of the journal's reference. Plain theorem; no condition beyond the bounds that it states. -/
namespace Go.Proofs.Ytjbkklkmjnfeeaa
open Go.RowKit
variable {Nz : Nat}

/-- What record hands back. -/
def RecGave (B : Nat) (r : Option (List UInt8 × Nat)) (at' : Nat) (e : Ending) (w' : World) : Prop := match r with
  | none => e = .returned (.tuple #[.slice none 0 0, .int .i64 0])
  | some (b, nx) => ∃ va m vc, e = .returned (.tuple #[.slice va m vc, .int .i64 ((nx - at' : Nat) : Int)]) ∧ w'.ownsRow B 5 1 (.slice va m vc) m (byteVals b)
theorem recGave_none {B : Nat} {r : Option (List UInt8 × Nat)} {at' : Nat} {w' : World} (h : r = none) : RecGave B r at' (.returned (.tuple #[.slice none 0 0, .int .i64 0])) w' := by subst h; rfl
theorem recGave_some {B : Nat} {r : Option (List UInt8 × Nat)} {at' nx m vc : Nat} {b : List UInt8} {va : Option Addr} {z : Int} {w' : World} (h : r = some (b, nx)) (hz : z = ((nx - at' : Nat) : Int)) (hb : w'.ownsRow B 5 1 (.slice va m vc) m (byteVals b)) : RecGave B r at' (.returned (.tuple #[.slice va m vc, .int .i64 z])) w' := by
  subst h; subst hz; exact ⟨va, m, vc, rfl, hb⟩

theorem own_below {w W : World} {base : Nat} {e : TypeId} {size n : Nat} {v : Value} {xs : List Value} (h : w.ownsRow base e size v n xs) (hB : Below w.heap.size w W) : W.ownsRow base e size v n xs :=
  own_heap h fun g hg => hB.block g (h.lt g hg).2

/-- A sector of a disk, where it lies. -/
theorem secs_at {w : World} {a : Option Addr} {n : Nat} {l : List (List UInt8)} (h : Sl 1 (IsBs Nz) w a n l) (hl : ∀ b ∈ l, b.length = 128) {i : Nat} {s : List UInt8} (hx : l[i]? = some s) :
    ∃ b0 off f o c, a = some ⟨b0, off, none⟩ ∧ w.cell? ⟨b0, off + i, none⟩ = some (.slice (some ⟨f, o, none⟩) 128 c) ∧ 128 ≤ c ∧ Sl 1 IsByte w (some ⟨f, o, none⟩) 128 s := by
  have hi := (List.getElem?_eq_some_iff.1 hx).1
  have hs := hl s (List.mem_of_getElem? hx)
  rcases h.secs with h0 | ⟨b0, off, rfl, hc⟩
  · have := h.len; omega
  obtain ⟨xa, xn, xc, _, h2, h3, h4⟩ := hc i s hx
  have hn : xn = 128 := by rw [← hs, h3.len]
  subst hn
  rcases h3.bytes with h0 | ⟨f, o, rfl, _⟩
  · omega
  · exact ⟨b0, off, f, o, xc, rfl, h4, h2, h3⟩
theorem goodM_lens {b : List UInt8} {k : Nat} (h : goodM b k = true) : lenM b ≤ 112 ∧ kindM b ≤ 3 := by
  have hf : formM b = true := by
    cases hf : formM b
    · rw [goodM_form hf] at h; cases h
    · rfl
  constructor
  · rcases Nat.lt_or_ge 112 (lenM b) with h2 | h2
    · rw [formM_far h2] at hf; cases hf
    · exact h2
  · rcases Nat.lt_or_ge 3 (kindM b) with h2 | h2
    · rw [formM_kind h2] at hf; cases hf
    · exact h2
theorem genM_lt {b : List UInt8} (h : b.length = 128) : genM b < 4294967296 := by
  have h1 := numM_lt (b.take 4)
  rw [show (b.take 4).length = 4 by simp; omega] at h1
  exact h1

set_option maxRecDepth 100000 in
set_option maxHeartbeats 8000000 in
theorem rrecord_any (a : Option Addr) (n c at' : Nat) (l : List (List UInt8)) (w : World) (hn : n ≤ 4096) (hat : at' ≤ n) (hl : ∀ b ∈ l, b.length = 128) (h : Sl 1 (IsBs Nz) w a n l) :
    Calls Try.prog 84 #[.slice a n c, .int .i64 at'] w fun e w' => RecGave w.heap.size (recM l at') at' e w' ∧ Below w.heap.size w w' := by
  have HL := hide h.len
  have HB := hide hl
  have HS := hide h
  obtain ⟨g, hg⟩ : ∃ g, g = genAt l at' := ⟨_, rfl⟩
  obtain ⟨r, hr⟩ : ∃ r, r = recM l at' := ⟨_, rfl⟩
  have HR : Hid (recGo g (l.drop at') at' true [] = r) := by show _ = _; rw [hg, hr]; rfl
  rw [← hr]
  have GG := hide hg
  obtain ⟨i0, hi0, hz0, hz1, hz2⟩ := info_parts infoB
  clear h hl hg hr
  go_enter Try.func84, Try.ntmps84
  go_wp2
  go_loopw [6, 7] (fun s6 s7 wr => ∃ (k : Nat) (va : Option Addr) (m vc : Nat) (acc : List UInt8), at' + k ≤ n ∧ s7 = .int .i64 k ∧ s6 = .slice va m vc ∧ m ≤ 112 * k ∧ wr.ownsRow w.heap.size 5 1 (.slice va m vc) m (byteVals acc) ∧ Below w.heap.size w wr ∧ recGo g (l.drop (at' + k)) (at' + k) (decide (k = 0)) acc = r) (fun _ s7 _ => n - (at' + (intOf s7).toNat))
  case atStart => exact ⟨0, some ⟨w.heap.size, 0, none⟩, 0, 0, [], by omega, rfl, rfl, by omega, ⟨rfl, .inr ⟨w.heap.size, 0, #[], rfl, Nat.le_refl _, heap_new _ rfl, Nat.le_refl _, by unfold maxLen; omega, rfl, rfl⟩⟩, (Below.refl _ w).alloc (Nat.le_refl _) _, HR.out⟩
  case round =>
    obtain ⟨k, va, m, vc, acc, hk, rfl, rfl, hm, hown, hB, hrec⟩ := hrel
    have HO := hide hown
    have HRC := hide hrec
    have hs1 := hB.size
    clear hown hrec
    obtain ⟨ix, hix⟩ : ∃ ix, ix = at' + k := ⟨_, rfl⟩
    have hixI : (at' : Int) + (k : Int) = (ix : Int) := by omega
    by_cases hlt : ix < n
    · obtain ⟨s, hx⟩ := getElem?_of_lt HL.out hlt
      obtain ⟨s0, hx0⟩ := getElem?_of_lt HL.out (show at' < n by omega)
      obtain ⟨b0, off, f, o, xc, rfl, hcellw, hxc, hssw⟩ := secs_at HS.out HB.out hx
      have hcell := below_cell hB hcellw
      have hss := hssw.below IsByte.keeps hB
      obtain ⟨c10w, c11w⟩ := sec_cells hssw
      obtain ⟨b1, off1, f0, o0, xc0, e, hcell0, hxc0, hss0⟩ := secs_at (HS.out.below IsBs.keeps hB) HB.out hx0
      cases e
      obtain ⟨c10, c11⟩ := sec_cells hss
      have hsl : s.length = 128 := hss.len
      have hsl0 : s0.length = 128 := hss0.len
      have hg0 : g = genM s0 := by rw [GG.out, genAt, List.getD, hx0]; rfl
      obtain ⟨ok, hok⟩ : ∃ ok, ok = (goodM s ix && (decide (kindM s % 2 = 1) == decide (k = 0)) && decide (genM s = g)) := ⟨_, rfl⟩
      have H92 : Hid (∀ z, Calls Try.prog 92 #[.slice (some ⟨f, o, none⟩) 128 xc, .int .i64 ix] (wr.drewN z) fun e w' => e = .returned (.bool (goodM s ix)) ∧ ∃ y, w' = (wr.drewN z).drewN y) := fun z => rgood_any f o xc ix s _ hxc (by omega) (hss.below IsByte.keeps (below_drewN (Below.refl _ wr) z))
      have H85 : Hid (∀ (c' : Nat) z, Calls Try.prog 85 #[.slice (some ⟨f, o, none⟩) 4 c'] (wr.drewN z) fun e w' => e = .returned (.int .u64 (genM s)) ∧ w' = wr.drewN z) := fun c' z =>
        (number_any _ 4 c' (s.take 4) _ (by omega) (sl_cut (hss.below IsByte.keeps (below_drewN (Below.refl _ wr) z)) 0 4 (by omega))).mono fun _ _ ⟨h1, h2⟩ => ⟨h1, h2.symm⟩
      have H85' : Hid (∀ (c' : Nat) z, Calls Try.prog 85 #[.slice (some ⟨f0, o0, none⟩) 4 c'] (wr.drewN z) fun e w' => e = .returned (.int .u64 g) ∧ w' = wr.drewN z) := fun c' z => by
        rw [hg0]
        exact (number_any _ 4 c' (s0.take 4) _ (by omega) (sl_cut (hss0.below IsByte.keeps (below_drewN (Below.refl _ wr) z)) 0 4 (by omega))).mono fun _ _ ⟨h1, h2⟩ => ⟨h1, h2.symm⟩
      obtain ⟨kd, hkd⟩ : ∃ kd, kd = kindM s := ⟨_, rfl⟩
      obtain ⟨ln, hln⟩ : ∃ ln, ln = lenM s := ⟨_, rfl⟩
      obtain ⟨gs, hgs⟩ : ∃ gs, gs = genM s := ⟨_, rfl⟩
      obtain ⟨gd, hgd⟩ : ∃ gd, gd = goodM s ix := ⟨_, rfl⟩
      rw [← hkd] at c10 c10w hok
      have C10 := hide c10w
      clear hcellw hssw c11w c10w
      rw [← hln] at c11
      rw [← hgs] at H85 hok
      rw [← hgd] at H92 hok
      have hkd256 : kd < 256 := by rw [hkd]; exact (s.getD 10 0).toNat_lt
      have hln256 : ln < 256 := by rw [hln]; exact (s.getD 11 0).toNat_lt
      have k0 : (0 : Int) ≤ (ix : Int) := by omega
      have k1 : (ix : Int) < (n : Int) := by omega
      have k2 : (at' : Int) < (n : Int) := by omega
      have k3 : (0 : Int) ≤ (at' : Int) := by omega
      have wix : IntKind.i64.wrap ((at' : Int) + (k : Int)) = (ix : Int) := by rw [IntKind.wrap_i64]; omega
      have OK := hide hok
      have KD := hide hkd
      have LN := hide hln
      have GS := hide hgs
      have GD := hide hgd
      have HX := hide hx
      have HIX := hide hix
      have HSS := hide hss
      have hg0k : k = 0 → gs = g := fun h0 => by
        have h1 : ix = at' := by omega
        rw [h1, hx0] at hx
        cases hx
        rw [hgs, hg0]
      have HG0 := hide hg0k
      clear hok hkd hln hgs hgd hx hx0 hg0 hix hss hss0 hsl hsl0 hg0k
      go_upto_region 6 with (fail)
      go_cut [55] (fun s55 wx => s55 = .bool (!ok) ∧ ∃ z, wx = wr.drewN z)
      case first =>
        refine wp_region_quiet_lit (by kernel_rfl) (by kernel_rfl) ?_
        cases gd
        · 
          repeat (go_big_quiet_step ((first | (go_at_call 92; with_reducible exact Calls.quiet_of (H92.out _)) | (go_at_call 85; first | with_reducible exact Calls.quiet_of_same (H85.out _ _) | with_reducible exact Calls.quiet_of_same (H85'.out _ _)))))
          refine wpQuiet_nil ?_
          intro _ ⟨nq, hnq⟩
          subst hnq
          go_wp2
          go_meet
          exact ⟨by rw [OK.out]; simp <;> omega, nq, rfl⟩
        rcases (show kd % 2 = 0 ∨ kd % 2 = 1 by omega) with hp | hp
        · have p1 : (kd : Int) % 2 = 0 := by omega
          have p2 : (kd : Int).tmod 2 = 0 := by rw [Int.tmod_eq_emod_of_nonneg (by omega)]; omega
          have HP := hide hp
          clear hp
          by_cases hk0 : k = 0
          · have q1 : ((k : Int) == 0) = true := by simp; omega
            have q2 : decide ((0 : Int) < (k : Int)) = false := by simp; omega
            have q3 : (k == 0) = true := by simp; omega
            have q4 : decide (0 < k) = false := by simp; omega
            have HG1 := hide (HG0.out hk0)
            have HK := hide hk0
            clear hk0
            repeat (go_big_quiet_step ((first | (go_at_call 92; with_reducible exact Calls.quiet_of (H92.out _)) | (go_at_call 85; first | with_reducible exact Calls.quiet_of_same (H85.out _ _) | with_reducible exact Calls.quiet_of_same (H85'.out _ _)))))
            refine wpQuiet_nil ?_
            intro _ ⟨nq, hnq⟩
            subst hnq
            go_wp2
            go_meet
            exact ⟨by rw [OK.out, HP.out, decide_eq_true HK.out]; simp, nq, rfl⟩
          have q1 : ((k : Int) == 0) = false := by simp; omega
          have q2 : decide ((0 : Int) < (k : Int)) = true := by simp; omega
          have q3 : (k == 0) = false := by simp; omega
          have q4 : decide (0 < k) = true := by simp; omega
          have HK := hide hk0
          clear hk0
          by_cases hgg : gs = g
          · have r1 : ((gs : Int) == (g : Int)) = true := by simp; omega
            have r2 : ((gs : Int) != (g : Int)) = false := by simp; omega
            have r3 : (gs == g) = true := by simp; omega
            have HGG := hide hgg
            clear hgg
            repeat (go_big_quiet_step ((first | (go_at_call 92; with_reducible exact Calls.quiet_of (H92.out _)) | (go_at_call 85; first | with_reducible exact Calls.quiet_of_same (H85.out _ _) | with_reducible exact Calls.quiet_of_same (H85'.out _ _)))))
            refine wpQuiet_nil ?_
            intro _ ⟨nq, hnq⟩
            subst hnq
            go_wp2
            go_meet
            exact ⟨by rw [OK.out, HP.out, HGG.out, decide_eq_false HK.out]; simp, nq, rfl⟩
          · have r1 : ((gs : Int) == (g : Int)) = false := by simp; omega
            have r2 : ((gs : Int) != (g : Int)) = true := by simp; omega
            have r3 : (gs == g) = false := by simp; omega
            have HGG := hide hgg
            clear hgg
            repeat (go_big_quiet_step ((first | (go_at_call 92; with_reducible exact Calls.quiet_of (H92.out _)) | (go_at_call 85; first | with_reducible exact Calls.quiet_of_same (H85.out _ _) | with_reducible exact Calls.quiet_of_same (H85'.out _ _)))))
            refine wpQuiet_nil ?_
            intro _ ⟨nq, hnq⟩
            subst hnq
            go_wp2
            go_meet
            exact ⟨by rw [OK.out, decide_eq_false HGG.out]; simp, nq, rfl⟩
        · have p1 : (kd : Int) % 2 = 1 := by omega
          have p2 : (kd : Int).tmod 2 = 1 := by rw [Int.tmod_eq_emod_of_nonneg (by omega)]; omega
          have HP := hide hp
          clear hp
          by_cases hk0 : k = 0
          · have q1 : ((k : Int) == 0) = true := by simp; omega
            have q2 : decide ((0 : Int) < (k : Int)) = false := by simp; omega
            have q3 : (k == 0) = true := by simp; omega
            have q4 : decide (0 < k) = false := by simp; omega
            have HGG := hide (HG0.out hk0)
            have HK := hide hk0
            clear hk0
            repeat (go_big_quiet_step ((first | (go_at_call 92; with_reducible exact Calls.quiet_of (H92.out _)) | (go_at_call 85; first | with_reducible exact Calls.quiet_of_same (H85.out _ _) | with_reducible exact Calls.quiet_of_same (H85'.out _ _)))))
            refine wpQuiet_nil ?_
            intro _ ⟨nq, hnq⟩
            subst hnq
            go_wp2
            go_meet
            exact ⟨by rw [OK.out, HGG.out, HP.out, decide_eq_true HK.out]; simp, nq, rfl⟩
          have q1 : ((k : Int) == 0) = false := by simp; omega
          have q2 : decide ((0 : Int) < (k : Int)) = true := by simp; omega
          have q3 : (k == 0) = false := by simp; omega
          have q4 : decide (0 < k) = true := by simp; omega
          have HK := hide hk0
          clear hk0
          repeat (go_big_quiet_step ((first | (go_at_call 92; with_reducible exact Calls.quiet_of (H92.out _)) | (go_at_call 85; first | with_reducible exact Calls.quiet_of_same (H85.out _ _) | with_reducible exact Calls.quiet_of_same (H85'.out _ _)))))
          refine wpQuiet_nil ?_
          intro _ ⟨nq, hnq⟩
          subst hnq
          go_wp2
          go_meet
          exact ⟨by rw [OK.out, HP.out, decide_eq_false HK.out]; simp, nq, rfl⟩
      case rest =>
      obtain ⟨rfl, z0, hz0⟩ := hcut
      obtain ⟨w1, hw1⟩ : ∃ w1, w1 = wc := ⟨_, rfl⟩
      rw [← hw1] at hz0 ⊢
      have hB1 : Below wr.heap.size wr w1 := by rw [hz0]; exact below_drewN (Below.refl _ wr) z0
      have HO1 := hide (own_below HO.out hB1)
      have hB2 : Below w.heap.size w w1 := hB.trans (hB1.mono hs1)
      have c10 := below_cell hB1 c10
      have c11 := below_cell hB1 c11
      have HSS1 := hide (HSS.out.below IsByte.keeps hB1)
      have hs2 := hB2.size
      have OK2 : Hid ((goodM s ix && (decide (kindM s % 2 = 1) == decide (k = 0)) && decide (genM s = g)) = ok) := by show _ = _; rw [← KD.out, ← GS.out, ← GD.out, ← OK.out]
      clear hw1 hz0 H92 H85 H85' HO HSS hB1
      cases ok
      · have HN : Hid (r = none) := by
          show _ = _
          rw [← HRC.out, ← HIX.out]
          exact recGo_bad HX.out _ _ _ OK2.out
        go_wp2
        go_ret2
        exact ⟨recGave_none HN.out, hB2⟩
      · obtain ⟨hln112, hkd3⟩ : ln ≤ 112 ∧ kd ≤ 3 := by
          have h1 := OK2.out
          simp only [Bool.and_eq_true] at h1
          rw [LN.out, KD.out]
          exact goodM_lens h1.1.1
        have HP : Hid (Sl 1 IsByte w1 (some ⟨f, o + 12, none⟩) ln (pieceM s)) := by
          show Sl 1 IsByte w1 (some ⟨f, o + 12, none⟩) ln (pieceM s)
          unfold pieceM
          rw [← LN.out]
          exact sl_cut HSS1.out 12 ln (by omega)
        obtain ⟨n1, n2, n3, n4⟩ := bytes_flat HP.out
        have N1 := hide n1
        have N2 := hide n2
        have N3 := hide n3
        have N4 := hide n4
        have wln : IntKind.i64.wrap (ln : Int) = (ln : Int) := by rw [IntKind.wrap_i64]; omega
        have s1 : (0 : Int) ≤ 12 + (ln : Int) := by omega
        have s2 : 12 + (ln : Int) ≤ (xc : Int) := by omega
        have s3 : (12 : Int) ≤ 12 + (ln : Int) := by omega
        have s4 : ¬ xc = 12 := by omega
        clear n1 n2 n3 n4 HP HSS1
        go_upto_region 9 with (at_builtin; refine wpList_append_own_sl rfl (.tmp 56) (.tmp 63) 35 rfl w.heap.size 5 i0 (.int .u8 0) 1 1 Try.underlying35 hi0 hz0 hz1 hz2 rfl (by decide) (.slice va m vc) m (byteVals acc) rfl HO1.out (some ⟨f, o + 12, none⟩) ln (xc - 12) (byteVals (pieceM s)) ?px N1.out N2.out N3.out N4.out ?p0 ?p1 ?p2 ?_; rotate_right; intro va2 vc2 w2 hown hgrow)
        case px => simp [Act.eval]
        case p0 => unfold maxLen; omega
        case p1 => omega
        case p2 => omega
        have hB3 : Below w.heap.size w w2 := hB2.grown hgrow (by omega) (fun q hq => (HO1.out.lt q hq).1)
        rw [← byteVals_append] at hown
        have HO2 := hide hown
        have c10 := below_cell hB3 C10.out
        clear hown hgrow HO1 hB2 hs2 N1 N2 N3 N4 c11
        by_cases h2 : 2 ≤ kd
        · have HN : Hid (r = some (acc ++ pieceM s, ix + 1)) := by
            show _ = _
            rw [← HRC.out, ← HIX.out]
            exact recGo_last HX.out _ _ _ OK2.out (by rw [← KD.out]; exact h2)
          go_wp2
          go_ret2
          exact ⟨recGave_some HN.out (by have := HIX.out; omega) HO2.out, hB3⟩
        · have HN : Hid (recGo g (l.drop (at' + (k + 1))) (at' + (k + 1)) (decide (k + 1 = 0)) (acc ++ pieceM s) = r) := by
            show _ = _
            rw [← HRC.out, ← HIX.out, recGo_more HX.out _ _ _ OK2.out (by rw [← KD.out]; omega)]
            rw [show at' + (k + 1) = ix + 1 by rw [HIX.out]; omega]
            simp
          go_wp2
          go_roundw
          case rel => exact ⟨k + 1, va2, m + ln, vc2, acc ++ pieceM s, by omega, by go_num, rfl, by omega, HO2.out, hB3, HN.out⟩
          case measure => simp [intOf]; omega
    · have HN : Hid (r = none) := by
        show _ = _
        rw [← HRC.out, ← hix]
        exact recGo_end (by have := HL.out; omega) _ _ _
      clear hix
      go_wp2
      go_ret2
      exact ⟨recGave_none HN.out, hB⟩
end Go.Proofs.Ytjbkklkmjnfeeaa

/- The contract of Records of the journal's reference. Plain theorem; no condition beyond the bounds that it states. -/
namespace Go.Proofs.Ytjbkklkmjnfeeaa
open Go.RowKit
variable {Nz : Nat}

theorem own_mono {w : World} {B base : Nat} {e : TypeId} {size n : Nat} {v : Value} {xs : List Value} (h : w.ownsRow base e size v n xs) (hB : B ≤ base) : w.ownsRow B e size v n xs := by
  obtain ⟨h1, h2⟩ := h
  refine ⟨h1, ?_⟩
  rcases h2 with h2 | ⟨g, cap, cur, rfl, h3, h4⟩
  · exact .inl h2
  · exact .inr ⟨g, cap, cur, rfl, by omega, h4⟩
/-- Rows of the call's own that hold records. -/
def OwnRecs (w : World) (B : Nat) (vs : List Value) (rs : List (List UInt8)) : Prop := vs.length = rs.length ∧ ∀ (i : Nat) b, rs[i]? = some b → ∃ va m vc, vs[i]? = some (.slice va m vc) ∧ w.ownsRow B 5 1 (.slice va m vc) m (byteVals b)
theorem OwnRecs.below {w w' : World} {B : Nat} {vs : List Value} {rs : List (List UInt8)} (h : OwnRecs w B vs rs) (hB : Below w.heap.size w w') : OwnRecs w' B vs rs :=
  ⟨h.1, fun i b hb => by obtain ⟨va, m, vc, h1, h2⟩ := h.2 i b hb; exact ⟨va, m, vc, h1, own_below h2 hB⟩⟩
/-- A row of another type grows. -/
theorem OwnRecs.grown {w w' : World} {B B2 n : Nat} {e : TypeId} {v : Value} {xs vs : List Value} {rs : List (List UInt8)} (h : OwnRecs w B vs rs) (ho : w.ownsRow B2 e 1 v n xs) (he : 5 ≠ e) (hg : w.grownBy w' v.ownBlock) : OwnRecs w' B vs rs :=
  ⟨h.1, fun i b hb => by obtain ⟨va, m, vc, h1, h2⟩ := h.2 i b hb; exact ⟨va, m, vc, h1, h2.kept hg (own_apart h2 ho he)⟩⟩
theorem OwnRecs.snoc {w : World} {B : Nat} {vs : List Value} {rs : List (List UInt8)} {va : Option Addr} {m vc : Nat} {b : List UInt8} (h : OwnRecs w B vs rs) (hb : w.ownsRow B 5 1 (.slice va m vc) m (byteVals b)) : OwnRecs w B (vs ++ [.slice va m vc]) (rs ++ [b]) := by
  refine ⟨by simp [h.1], fun i x hx => ?_⟩
  rcases Nat.lt_or_ge i rs.length with h1 | h1
  · rw [List.getElem?_append_left h1] at hx
    obtain ⟨va', m', vc', h2, h3⟩ := h.2 i x hx
    exact ⟨va', m', vc', by rw [List.getElem?_append_left (by rw [h.1]; exact h1)]; exact h2, h3⟩
  · rw [List.getElem?_append_right h1] at hx
    have h2 : i - rs.length = 0 := by
      rcases Nat.eq_zero_or_pos (i - rs.length) with h3 | h3
      · exact h3
      · rw [List.getElem?_eq_none (by simp; omega)] at hx; cases hx
    rw [h2] at hx
    simp only [List.getElem?_cons_zero, Option.some.injEq] at hx
    subst hx
    exact ⟨va, m, vc, by rw [List.getElem?_append_right (by rw [h.1]; exact h1), h.1, h2]; rfl, hb⟩
/-- Records that a call gave, in rows of its own. -/
def GaveRecs (B : Nat) (rs : List (List UInt8)) (e : Ending) (w' : World) : Prop := ∃ a n c vs, e = .returned (.slice a n c) ∧ n ≤ 4096 ∧ w'.ownsRow B 35 1 (.slice a n c) n vs ∧ OwnRecs w' B vs rs
theorem gave_recs {w : World} {B n c : Nat} {a : Option Addr} {vs : List Value} {rs : List (List UInt8)} (ho : w.ownsRow B 35 1 (.slice a n c) n vs) (h : OwnRecs w B vs rs) (hn : n ≤ 4096) : GaveRecs B rs (.returned (.slice a n c)) w := ⟨a, n, c, vs, rfl, hn, ho, h⟩
/-- The same rows, read. -/
theorem own_recs {w : World} {B n c : Nat} {a : Option Addr} {vs : List Value} {rs : List (List UInt8)} (ho : w.ownsRow B 35 1 (.slice a n c) n vs) (h : OwnRecs w B vs rs) : n ≤ c ∧ Sl 1 (IsBs Nz) w a n rs ∧ FitA Nz w a n := by
  have hl : rs.length = n := by have := ho.1; have := h.1; omega
  obtain ⟨_, h2, h3⟩ := sl_of_owns1 (R := IsBs Nz) ho rs hl (fun i x hx => by
    obtain ⟨va, m, vc, h4, h5⟩ := h.2 i x hx
    exact ⟨_, h4, isBs_own h5⟩)
  exact ⟨h2, h3, FitA.own ho (.inr (.inl rfl))⟩
/-- Blocks from B on are as they were. -/
theorem own_far {w W : World} {B : Nat} {e : TypeId} {size n : Nat} {v : Value} {xs : List Value} (h : w.ownsRow B e size v n xs) (hW : ∀ g, B ≤ g → W.heap[g]? = w.heap[g]?) : W.ownsRow B e size v n xs :=
  own_heap h fun g hg => hW g (h.lt g hg).1
theorem OwnRecs.far {w W : World} {B : Nat} {vs : List Value} {rs : List (List UInt8)} (h : OwnRecs w B vs rs) (hW : ∀ g, B ≤ g → W.heap[g]? = w.heap[g]?) : OwnRecs W B vs rs :=
  ⟨h.1, fun i b hb => by obtain ⟨va, m, vc, h1, h2⟩ := h.2 i b hb; exact ⟨va, m, vc, h1, own_far h2 hW⟩⟩
theorem recsGo_none {l : List (List UInt8)} {f at' last : Nat} (h : recM l at' = none) : recsGo l f at' last = [] := by
  cases f with
  | zero => rfl
  | succ f => rw [recsGo, h]
theorem recsGo_old {l : List (List UInt8)} {f at' last nx : Nat} {b : List UInt8} (h : recM l at' = some (b, nx)) (hl : genAt l at' < last) : recsGo l f at' last = [] := by
  cases f with
  | zero => rfl
  | succ f => rw [recsGo, h]; simp [hl]
theorem recsGo_some {l : List (List UInt8)} {f at' last nx : Nat} {b : List UInt8} (h : recM l at' = some (b, nx)) (hl : ¬ genAt l at' < last) : recsGo l (f + 1) at' last = b :: recsGo l f nx (genAt l at') := by
  rw [recsGo, h]; simp [hl]

theorem recsGo_len {l : List (List UInt8)} {M : Nat} (hM : ∀ at' b nx, recM l at' = some (b, nx) → b.length ≤ M) (f at' last : Nat) : ∀ b ∈ recsGo l f at' last, b.length ≤ M := by
  induction f generalizing at' last with
  | zero => intro b hb; cases hb
  | succ f ih =>
    intro b hb
    cases hr : recM l at' with
    | none => rw [recsGo_none hr] at hb; cases hb
    | some p =>
      obtain ⟨b', nx⟩ := p
      by_cases hl : genAt l at' < last
      · rw [recsGo_old hr hl] at hb; cases hb
      · rw [recsGo_some hr hl] at hb
        rcases List.mem_cons.1 hb with rfl | hb
        · exact hM _ _ _ hr
        · exact ih _ _ b hb
theorem recsM_len (l : List (List UInt8)) : ∀ b ∈ recsM l, b.length ≤ 255 * l.length := recsGo_len (fun _ _ _ h => (recM_next h).2.2) _ _ _

set_option maxRecDepth 100000 in
set_option maxHeartbeats 8000000 in
theorem rrecords_any (a : Option Addr) (n c : Nat) (l : List (List UInt8)) (w : World) (hn : n ≤ 4096) (hl : ∀ b ∈ l, b.length = 128) (h : Sl 1 (IsBs Nz) w a n l) :
    Calls Try.prog 65 #[.slice a n c] w fun e w' => GaveRecs w.heap.size (recsM l) e w' ∧ Below w.heap.size w w' := by
  have HL := hide h.len
  have HB := hide hl
  have HS := hide h
  obtain ⟨R, hR⟩ : ∃ R, R = recsM l := ⟨_, rfl⟩
  have HR : Hid ([] ++ recsGo l (l.length + 1) 0 0 = R) := by show _ = _; rw [hR]; rfl
  rw [← hR]
  obtain ⟨i0, hi0, hz0, hz1, hz2⟩ := info_parts infoS
  clear h hl hR
  go_enter Try.func65, Try.ntmps65
  go_wp2_with fail
  go_loopw [3, 4, 5] (fun s3 s4 s5 wr => ∃ (at' last f m : Nat) (va : Option Addr) (vc : Nat) (vs : List Value) (rs : List (List UInt8)), at' ≤ n ∧ m ≤ at' ∧ n + 1 ≤ f + at' ∧ s3 = .slice va m vc ∧ s4 = .int .i64 at' ∧ s5 = .int .u64 last ∧ wr.ownsRow w.heap.size 35 1 (.slice va m vc) m vs ∧ OwnRecs wr w.heap.size vs rs ∧ Below w.heap.size w wr ∧ rs ++ recsGo l f at' last = R) (fun _ s4 _ _ => n - (intOf s4).toNat)
  case atStart => exact ⟨0, 0, l.length + 1, 0, some ⟨w.heap.size, 0, none⟩, 0, [], [], by omega, by omega, by have := HL.out; omega, rfl, rfl, rfl, ⟨rfl, .inr ⟨w.heap.size, 0, #[], rfl, Nat.le_refl _, heap_new _ rfl, Nat.le_refl _, by unfold maxLen; omega, rfl, rfl⟩⟩, ⟨rfl, fun i b hb => by simp at hb⟩, (Below.refl _ w).alloc (Nat.le_refl _) _, HR.out⟩
  case round =>
    obtain ⟨at', last, f, m, va, vc, vs, rs, h1, h2, h3, rfl, rfl, rfl, hown, hrs, hB, hrec⟩ := hrel
    have HO := hide hown
    have HRS := hide hrs
    have HRC := hide hrec
    have hs1 := hB.size
    clear hown hrs hrec
    go_wp2_with fail
    refine (rrecord_any _ n c at' l wr hn h1 HB.out (HS.out.below IsBs.keeps hB)).mono ?_
    rintro e w1 ⟨hgave, hB1⟩
    have hB2 : Below w.heap.size w w1 := hB.trans (hB1.mono hs1)
    have HO1 := hide (own_below HO.out hB1)
    have HRS1 := hide (HRS.out.below hB1)
    have hs2 := hB2.size
    cases hr : recM l at' with
    | none =>
      rw [hr] at hgave
      obtain rfl := hgave
      have HN : Hid (rs = R) := by
        show _ = _
        rw [← HRC.out, recsGo_none hr, List.append_nil]
      clear hr
      go_wp2_with fail
      go_ret
      exact ⟨by rw [← HN.out]; exact gave_recs HO1.out HRS1.out (by omega), hB2⟩
    | some p =>
      obtain ⟨b, nx⟩ := p
      rw [hr] at hgave
      obtain ⟨ra, rm, rc, rfl, hro⟩ := hgave
      obtain ⟨x1, x2, _⟩ := recM_next hr
      rw [HL.out] at x2
      obtain ⟨s0, hx0⟩ := getElem?_of_lt HL.out (show at' < n by omega)
      obtain ⟨b0, off, f0, o0, xc0, rfl, hcell0, hxc0, hss0⟩ := secs_at (HS.out.below IsBs.keeps hB2) HB.out hx0
      obtain ⟨zz, hzz⟩ : ∃ zz, zz = nx - at' := ⟨_, rfl⟩
      rw [← hzz]
      have hz0' : 0 < zz := by omega
      have z1 : ((zz : Int) == 0) = false := by simp; omega
      have z2 : (zz == 0) = false := by simp; omega
      have k2 : (at' : Int) < (n : Int) := by omega
      have k3 : (0 : Int) ≤ (at' : Int) := by omega
      obtain ⟨g, hg⟩ : ∃ g, g = genAt l at' := ⟨_, rfl⟩
      have hg0 : g = genM s0 := by rw [hg, genAt, List.getD, hx0]; rfl
      have hsl0 : s0.length = 128 := hss0.len
      have hgl : g < 4294967296 := by rw [hg0]; exact genM_lt hsl0
      have H85 : Hid (∀ c' : Nat, Calls Try.prog 85 #[.slice (some ⟨f0, o0, none⟩) 4 c'] w1 fun e w' => e = .returned (.int .u64 g) ∧ w1 = w') := fun c' => by
        rw [hg0]
        exact number_any _ 4 c' (s0.take 4) _ (by omega) (sl_cut hss0 0 4 (by omega))
      have HRO := hide hro
      have HZZ := hide hzz
      have HRM := hide hr
      have GG := hide hg
      clear hro hzz hr hg hg0 hx0 hss0 hsl0
      by_cases hlast : g < last
      · have HN : Hid (rs = R) := by
          show _ = _
          rw [← HRC.out, recsGo_old HRM.out (by rw [← GG.out]; exact hlast), List.append_nil]
        go_wp2_with (go_at_call 85; refine (H85.out _).mono ?_; rintro e w' ⟨rfl, rfl⟩)
        go_ret
        exact ⟨by rw [← HN.out]; exact gave_recs HO1.out HRS1.out (by omega), hB2⟩
      · obtain ⟨f', hf'⟩ : ∃ f', f = f' + 1 := ⟨f - 1, by omega⟩
        have HN : Hid ((rs ++ [b]) ++ recsGo l f' nx g = R) := by
          show _ = _
          rw [← HRC.out, hf', recsGo_some HRM.out (by rw [← GG.out]; exact hlast), ← GG.out]
          simp
        have hff : n + 1 ≤ f' + nx := by omega
        clear hf'
        go_upto_region 9 with (first
          | (go_at_call 85; refine (H85.out _).mono ?_; rintro e w' ⟨rfl, rfl⟩)
          | (at_builtin; refine wpList_append_own_sl rfl (.tmp 34) (.tmp 36) 22 rfl w.heap.size 35 i0 (.slice none 0 0) 1 24 Try.underlying22 hi0 hz0 hz1 hz2 rfl (by decide) (.slice va m vc) m vs rfl (HO1.out.alloc _) (some ⟨w1.heap.size, 0, none⟩) 1 1 [.slice ra rm rc] rfl rfl ?p0 ?p1 ?p2 ?p3 ?p4 ?p5 ?_; rotate_right; intro va2 vc2 w2 hown hgrow))
        case p0 => rintro ⟨⟩
        case p1 =>
          rintro ad ⟨⟩ j u hu
          rw [Addr.add_lit, Nat.zero_add, cell_new _ _ rfl]
          simpa using hu
        case p2 => simp [Value.oneCell']
        case p3 => unfold maxLen; omega
        case p4 => omega
        case p5 => simp; omega
        have hA : Below w1.heap.size w1 (w1.alloc (.cells #[.slice ra rm rc] 35)) := (Below.refl _ w1).alloc (Nat.le_refl _) _
        have hB3 : Below w.heap.size w w2 := (hB2.trans (hA.mono hs2)).grown hgrow (by simp; omega) (fun q hq => (HO1.out.lt q hq).1)
        have hrs2 : OwnRecs w2 w.heap.size (vs ++ [.slice ra rm rc]) (rs ++ [b]) := by
          have h5 := (HRS1.out.below hA).snoc (own_mono (own_below HRO.out hA) hs1)
          exact h5.grown (HO1.out.alloc _) (by decide) hgrow
        have HO2 := hide hown
        have HRS2 := hide hrs2
        have hnx : ((at' : Int) + (zz : Int)) = (nx : Int) := by have := HZZ.out; omega
        clear hown hgrow hrs2 HO1 HRS1
        go_wp2
        go_roundw
        case rel => exact ⟨nx, g, f', m + 1, va2, vc2, vs ++ [.slice ra rm rc], rs ++ [b], by omega, by omega, hff, rfl, rfl, rfl, HO2.out, HRS2.out, hB3, HN.out⟩
        case measure => simp [intOf]; omega
end Go.Proofs.Ytjbkklkmjnfeeaa
