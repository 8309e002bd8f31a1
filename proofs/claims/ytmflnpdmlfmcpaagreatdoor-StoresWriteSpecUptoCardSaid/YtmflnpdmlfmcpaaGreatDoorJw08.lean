/- Joined texts. -/
import Derived.Test.YtmflnpdmlfmcpaaGreatDoorJw07
import Derived.Outline
import Derived.Laws.Rows
import Derived.Laws.Tables
import Derived.Deep.DeepFit
import Derived.Lib.ConvBytes
import Derived.Maps.AppendAt
import Derived.Maps.Range
import Derived.Lib.AppendStr
import Derived.Deep.RegionLaw
import Derived.Deep.CutBlock
import Derived.Deep.MidRow
import Derived.Laws.BytesString
import Derived.ArgAppend
set_option maxRecDepth 100000
set_option maxHeartbeats 8000000
namespace Go.Proofs.YtmflnpdmlfmcpaaGreatDoor.Dr
open Go.RowKit
def wv (x : aX) : Int := (x.toNat : Int)
theorem B8 (x : aX) : wv x = (x.toNat : Int) := rfl
theorem Cv (x : aX) : 0 <= wv x := by unfold wv; omega
theorem B9 (x : aX) : wv x < 4294967296 := by have := x.isLt; unfold wv; omega
theorem iu (x y : aX) : bits .xor .u32 (wv x) (wv y) = wv (x ^^^ y) := by
 unfold wv; rw [u32_xor_nat _ _ x.isLt y.isLt, BitVec.toNat_xor]
theorem qC (x y : aX) : bits .and .u32 (wv x) (wv y) = wv (x &&& y) := by
 unfold wv; rw [u32_and_nat _ _ x.isLt y.isLt, BitVec.toNat_and]
theorem uk (x y : aX) : bits .or .u32 (wv x) (wv y) = wv (x ||| y) := by
 unfold wv; rw [u32_or_nat _ _ x.isLt y.isLt, BitVec.toNat_or]
theorem qD (x y : aX) : (wv x + wv y) % 4294967296 = wv (x + y) := by
 unfold wv; rw [BitVec.toNat_add]; omega
theorem mh (x : aX) (n : Nat) : (wv x / ((2 ^ n : Nat) : Int)) = wv (x >>> n) := by
 unfold wv; rw [BitVec.toNat_ushiftRight, Nat.shiftRight_eq_div_pow]; rfl
theorem Aa (x : aX) (n : Nat) : (wv x * ((2 ^ n : Nat) : Int)) % 4294967296 = wv (x <<< n) := by
 unfold wv; rw [BitVec.toNat_shiftLeft, Nat.shiftLeft_eq]; rfl
theorem iv (x : aX) (n : Nat) : bits .or .u32 (wv x * ((2 ^ (32 - n) : Nat) : Int) % 4294967296) (wv x / ((2 ^ n : Nat) : Int)) = wv (aE x n) := by
 rw [Aa, mh, uk, BitVec.or_comm]; rfl
theorem gq (x : aX) (n : Nat) : bits .or .u32 (wv x / ((2 ^ n : Nat) : Int)) (wv x * ((2 ^ (32 - n) : Nat) : Int) % 4294967296) = wv (aE x n) := by
 rw [Aa, mh, uk]; rfl
theorem Cw (x : aX) (w : World) :
  Calls Tryz.prog 140 #[.int .u32 (wv x), .int .i64 (-2)] w fun e w' => e = .returned (.int .u32 (wv (aE x 2))) /\ w = w' := by
 have e1 : bits .and .u64 (IntKind.u64.wrap (-2)) 31 = 30 := by decide +kernel
 have e2 : bits .or .u32 (wv x * 1073741824 % 4294967296) (wv x / 4) = (wv (aE x 2)) := iv x 2
 go_enter Tryz.func140, Tryz.ntmps140
 go_wp2
 go_ret
 exact ⟨rfl, rfl⟩
theorem Cx (x : aX) (w : World) :
  Calls Tryz.prog 140 #[.int .u32 (wv x), .int .i64 (-6)] w fun e w' => e = .returned (.int .u32 (wv (aE x 6))) /\ w = w' := by
 have e1 : bits .and .u64 (IntKind.u64.wrap (-6)) 31 = 26 := by decide +kernel
 have e2 : bits .or .u32 (wv x * 67108864 % 4294967296) (wv x / 64) = (wv (aE x 6)) := iv x 6
 go_enter Tryz.func140, Tryz.ntmps140
 go_wp2
 go_ret
 exact ⟨rfl, rfl⟩
theorem Cy (x : aX) (w : World) :
  Calls Tryz.prog 140 #[.int .u32 (wv x), .int .i64 (-7)] w fun e w' => e = .returned (.int .u32 (wv (aE x 7))) /\ w = w' := by
 have e1 : bits .and .u64 (IntKind.u64.wrap (-7)) 31 = 25 := by decide +kernel
 have e2 : bits .or .u32 (wv x * 33554432 % 4294967296) (wv x / 128) = (wv (aE x 7)) := iv x 7
 go_enter Tryz.func140, Tryz.ntmps140
 go_wp2
 go_ret
 exact ⟨rfl, rfl⟩
theorem Ca (x : aX) (w : World) :
  Calls Tryz.prog 140 #[.int .u32 (wv x), .int .i64 (-11)] w fun e w' => e = .returned (.int .u32 (wv (aE x 11))) /\ w = w' := by
 have e1 : bits .and .u64 (IntKind.u64.wrap (-11)) 31 = 21 := by decide +kernel
 have e2 : bits .or .u32 (wv x * 2097152 % 4294967296) (wv x / 2048) = (wv (aE x 11)) := iv x 11
 go_enter Tryz.func140, Tryz.ntmps140
 go_wp2
 go_ret
 exact ⟨rfl, rfl⟩
theorem Cb (x : aX) (w : World) :
  Calls Tryz.prog 140 #[.int .u32 (wv x), .int .i64 (-13)] w fun e w' => e = .returned (.int .u32 (wv (aE x 13))) /\ w = w' := by
 have e1 : bits .and .u64 (IntKind.u64.wrap (-13)) 31 = 19 := by decide +kernel
 have e2 : bits .or .u32 (wv x * 524288 % 4294967296) (wv x / 8192) = (wv (aE x 13)) := iv x 13
 go_enter Tryz.func140, Tryz.ntmps140
 go_wp2
 go_ret
 exact ⟨rfl, rfl⟩
theorem Cc (x : aX) (w : World) :
  Calls Tryz.prog 140 #[.int .u32 (wv x), .int .i64 (-17)] w fun e w' => e = .returned (.int .u32 (wv (aE x 17))) /\ w = w' := by
 have e1 : bits .and .u64 (IntKind.u64.wrap (-17)) 31 = 15 := by decide +kernel
 have e2 : bits .or .u32 (wv x * 32768 % 4294967296) (wv x / 131072) = (wv (aE x 17)) := iv x 17
 go_enter Tryz.func140, Tryz.ntmps140
 go_wp2
 go_ret
 exact ⟨rfl, rfl⟩
theorem Cd (x : aX) (w : World) :
  Calls Tryz.prog 140 #[.int .u32 (wv x), .int .i64 (-18)] w fun e w' => e = .returned (.int .u32 (wv (aE x 18))) /\ w = w' := by
 have e1 : bits .and .u64 (IntKind.u64.wrap (-18)) 31 = 14 := by decide +kernel
 have e2 : bits .or .u32 (wv x * 16384 % 4294967296) (wv x / 262144) = (wv (aE x 18)) := iv x 18
 go_enter Tryz.func140, Tryz.ntmps140
 go_wp2
 go_ret
 exact ⟨rfl, rfl⟩
theorem Ce (x : aX) (w : World) :
  Calls Tryz.prog 140 #[.int .u32 (wv x), .int .i64 (-19)] w fun e w' => e = .returned (.int .u32 (wv (aE x 19))) /\ w = w' := by
 have e1 : bits .and .u64 (IntKind.u64.wrap (-19)) 31 = 13 := by decide +kernel
 have e2 : bits .or .u32 (wv x * 8192 % 4294967296) (wv x / 524288) = (wv (aE x 19)) := iv x 19
 go_enter Tryz.func140, Tryz.ntmps140
 go_wp2
 go_ret
 exact ⟨rfl, rfl⟩
theorem Cf (x : aX) (w : World) :
  Calls Tryz.prog 140 #[.int .u32 (wv x), .int .i64 (-22)] w fun e w' => e = .returned (.int .u32 (wv (aE x 22))) /\ w = w' := by
 have e1 : bits .and .u64 (IntKind.u64.wrap (-22)) 31 = 10 := by decide +kernel
 have e2 : bits .or .u32 (wv x * 1024 % 4294967296) (wv x / 4194304) = (wv (aE x 22)) := iv x 22
 go_enter Tryz.func140, Tryz.ntmps140
 go_wp2
 go_ret
 exact ⟨rfl, rfl⟩
theorem Cg (x : aX) (w : World) :
  Calls Tryz.prog 140 #[.int .u32 (wv x), .int .i64 (-25)] w fun e w' => e = .returned (.int .u32 (wv (aE x 25))) /\ w = w' := by
 have e1 : bits .and .u64 (IntKind.u64.wrap (-25)) 31 = 7 := by decide +kernel
 have e2 : bits .or .u32 (wv x * 128 % 4294967296) (wv x / 33554432) = (wv (aE x 25)) := iv x 25
 go_enter Tryz.func140, Tryz.ntmps140
 go_wp2
 go_ret
 exact ⟨rfl, rfl⟩
theorem yq (x : aX) (w : World) :
  Calls Tryz.prog 141 #[.int .u32 (wv x), .int .i64 6, .int .i64 11, .int .i64 25] w fun e w' => e = .returned (.int .u32 (wv (i8 x 6 11 25))) /\ w = w' := by
 have hxor := iu
 go_enter Tryz.func141, Tryz.ntmps141
 go_wp2_with fail
 refine (Cx _ _).mono ?_
 rintro e w' ⟨rfl, rfl⟩
 go_wp2_with fail
 refine (Ca _ _).mono ?_
 rintro e w' ⟨rfl, rfl⟩
 go_wp2_with fail
 refine (Cg _ _).mono ?_
 rintro e w' ⟨rfl, rfl⟩
 go_wp2
 go_ret
 exact ⟨rfl, rfl⟩
theorem yr (x : aX) (w : World) :
  Calls Tryz.prog 141 #[.int .u32 (wv x), .int .i64 2, .int .i64 13, .int .i64 22] w fun e w' => e = .returned (.int .u32 (wv (i8 x 2 13 22))) /\ w = w' := by
 have hxor := iu
 go_enter Tryz.func141, Tryz.ntmps141
 go_wp2_with fail
 refine (Cw _ _).mono ?_
 rintro e w' ⟨rfl, rfl⟩
 go_wp2_with fail
 refine (Cb _ _).mono ?_
 rintro e w' ⟨rfl, rfl⟩
 go_wp2_with fail
 refine (Cf _ _).mono ?_
 rintro e w' ⟨rfl, rfl⟩
 go_wp2
 go_ret
 exact ⟨rfl, rfl⟩
def kM (l : List UInt8) : Nat := l.foldl (fun n b => n * 256 + b.toNat) 0
theorem vV (l : List UInt8) (k : Nat) (b : UInt8) (h : l[k]? = some b) : kM (l.take (k + 1)) = kM (l.take k) * 256 + b.toNat := by
 unfold kM
 rw [cp l k b h, List.foldl_append]
 rfl
theorem As (l : List UInt8) (k : Nat) (hk : k <= 3) (hl : k <= l.length) : kM (l.take k) < 16777216 := by
 have gen : ∀ (l : List UInt8) (z m : Nat), z < 256 ^ m -> l.foldl (fun n b => n * 256 + b.toNat) z < 256 ^ (m + l.length) := by
  intro l
  induction l with
  | nil => intro z m h; exact h
  | cons b l ih =>
   intro z m h
   have hb := b.toNat_lt
   have := ih (z * 256 + b.toNat) (m + 1) (by rw [Nat.pow_succ]; omega)
   rw [List.length_cons, show m + (l.length + 1) = m + 1 + l.length by omega]
   exact this
 have h1 := gen (l.take k) 0 0 (by simp)
 have h2 : 256 ^ (0 + (l.take k).length) <= 256 ^ 3 := Nat.pow_le_pow_right (by omega) (by simp; omega)
 unfold kM
 omega
theorem qN (n b : Nat) (hb : b < 256) : n * 256 ||| b = n * 256 + b := by
 rw [show n * 256 = n <<< 8 by rw [Nat.shiftLeft_eq], Nat.shiftLeft_add_eq_or_of_lt (by omega : b < 2 ^ 8)]
theorem vW (a b c d : UInt8) : kM [a, b, c, d] = (gR a b c d).toNat := by
 rw [mJ]; simp [kM]
theorem yt (b off n c : Nat) (x0 x1 x2 x3 : UInt8) (w : World) (hn : 4 <= n) (hc : n <= c)
  (h0 : w.cell? ⟨b, off, none⟩ = some (.int .u8 x0.toNat)) (h1 : w.cell? ⟨b, off + 1, none⟩ = some (.int .u8 x1.toNat)) (h2 : w.cell? ⟨b, off + 2, none⟩ = some (.int .u8 x2.toNat)) (h3 : w.cell? ⟨b, off + 3, none⟩ = some (.int .u8 x3.toNat)) :
  Calls Tryz.prog 139 #[.slice (some ⟨b, off, none⟩) n c] w fun e w' => e = .returned (.int .u32 (wv (gR x0 x1 x2 x3))) /\ w = w' := by
 have hcells : ∀ k x, [x0, x1, x2, x3][k]? = some x -> w.cell? ⟨b, off + k, none⟩ = some (.int .u8 x.toNat) := by
  intro k x hx
  match k, hx with
  | 0, hx => obtain rfl := Option.some.inj hx; exact h0
  | 1, hx => obtain rfl := Option.some.inj hx; exact h1
  | 2, hx => obtain rfl := Option.some.inj hx; exact h2
  | 3, hx => obtain rfl := Option.some.inj hx; exact h3
  | k + 4, hx => simp at hx
 have HW := aa (vW x0 x1 x2 x3)
 obtain ⟨l, hl⟩ := zg ([x0, x1, x2, x3])
 have hll : l.length = 4 := by rw [hl]; rfl
 rw [<- hl] at hcells HW
 have HL := aa hll
 have HC := aa hcells
 clear hl hll hcells h0 h1 h2 h3
 go_enter Tryz.func139, Tryz.ntmps139
 go_wp2
 go_loop [2, 8] (fun z i => ∃ k : Nat, k <= 4 /\ i = .int .i64 k /\ z = .int .u32 (kM (l.take k))) (fun _ i => 4 - (intOf i).toNat)
 case atStart => exact ⟨0, by omega, rfl, rfl⟩
 case round =>
  obtain ⟨k, hk, rfl, rfl⟩ := hrel
  by_cases hlt : k < 4
  ·obtain ⟨x, hx⟩ := av HL.out hlt
   have hcell := HC.out k x hx
   have hu := vV l k x hx
   have hs := As l k (by omega) (by have := HL.out; omega)
   obtain ⟨u, hu0⟩ := zg (kM (l.take k))
   rw [<- hu0] at hu hs ⊢
   have HU := aa hu
   have hxl := x.toNat_lt
   have w1 : IntKind.u32.wrap (x.toNat : Int) = (x.toNat : Int) := by rw [IntKind.wrap_u32]; omega
   have w2 : (u : Int) * 256 % 4294967296 = ((u * 256 : Nat) : Int) := by omega
   have w3 : bits .or .u32 ((u : Int) * 256) (x.toNat : Int) = ((u * 256 + x.toNat : Nat) : Int) := by
    rw [show (u : Int) * 256 = ((u * 256 : Nat) : Int) by omega, u32_or_nat _ _ (by omega) (by omega), qN _ _ hxl]
   clear hx hu hu0
   go_wp2
   go_round
   case rel => exact ⟨k + 1, by omega, by go_num, by rw [HU.out]; go_num⟩
   case measure => simp [intOf]; omega
  ·obtain rfl : k = 4 := by omega
   go_wp2
   go_ret
   exact ⟨bY (by rw [List.take_of_length_le (by have := HL.out; omega), HW.out, B8]), rfl⟩
def cY (L : List UInt8) (off k n t : Nat) : List UInt8 := L.take (off + (k - t)) ++ be t n ++ L.drop (off + k)
theorem lq (L : List UInt8) (off k n : Nat) : cY L off k n 0 = L := by simp [cY, be]
theorem nc (L : List UInt8) (off k n t : Nat) (h : t < k) (hL : off + k <= L.length) : (cY L off k n t).set (off + (k - t - 1)) (UInt8.ofNat (n / 256 ^ t % 256)) = cY L off k n (t + 1) := by
 unfold cY
 have e : off + (k - t) = (off + (k - (t + 1))) + 1 := by omega
 obtain ⟨b, hb⟩ : ∃ b, L[off + (k - (t + 1))]? = some b := ⟨_, List.getElem?_eq_getElem (by omega)⟩
 rw [e, cp L _ b hb, List.append_assoc, List.append_assoc, List.set_append_right _ _ (by simp; omega)]
 have e2 : off + (k - t - 1) - (List.take (off + (k - (t + 1))) L).length = 0 := by simp; omega
 rw [e2]
 simp [be]
theorem jR (L : List UInt8) (off k n t : Nat) (h : t <= k) (hL : off + k <= L.length) : (cY L off k n t).length = L.length := by
 simp [cY, eN]
 omega
theorem ig (g off k c n : Nat) (ty : TypeId) (L : List UInt8) (w : World) (_hn : n < 18446744073709551616) (hk1 : 1 <= k) (hk : k <= 8) (hL : off + k <= L.length) (h : ac w g ty (af L)) :
  Calls Tryz.prog 118 #[.slice (some ⟨g, off, none⟩) k c, .int .u64 n] w fun e w' => (∃ v, e = .returned v) /\ ac w' g ty (af (cY L off k n k)) /\ Below g w w' /\ w'.heap.size = w.heap.size /\ ∀ q, q ≠ g -> w'.heap[q]? = w.heap[q]? := by
 go_enter Tryz.func118, Tryz.ntmps118
 go_wp2
 go_loopw [7] (fun s7 wr => ∃ t : Nat, t <= k /\ s7 = .int .i64 t /\ ac wr g ty (af (cY L off k n t)) /\ Below g w wr /\ wr.heap.size = w.heap.size /\ ∀ q, q ≠ g -> wr.heap[q]? = w.heap[q]?) (fun s7 _ => k - (intOf s7).toNat)
 case atStart => exact ⟨0, Nat.zero_le _, rfl, by rw [lq]; exact h, Below.refl _ _, rfl, fun _ _ => rfl⟩
 case round =>
  obtain ⟨t, ht, rfl, hrow, hB, hsz, hoth⟩ := hrel
  by_cases hlt : t < k
  ·obtain ⟨i, hi⟩ : ∃ i : Nat, i = k - t - 1 := ⟨_, rfl⟩
   have hiI : (k : Int) - 1 - (t : Int) = (i : Int) := by omega
   have hset := nc L off k n t hlt hL
   rw [<- hi] at hset
   have hlen := jR L off k n t ht hL
   obtain ⟨y, hy⟩ := av hlen (show off + i < L.length by omega)
   have hc0 : wr.cell? ⟨g, off + i, none⟩ = some (.int .u8 y.toNat) := (ac.cell hrow _).trans (by simp only [af, List.getElem?_map, hy]; rfl)
   have hfz : wr.frozen? ⟨g, off + i, none⟩ = false := frozen_of_row _ _ _ _ _ hrow
   have k0 : (0 : Int) <= (i : Int) := by omega
   have k1 : (i : Int) < (k : Int) := by omega
   have k2 : (t : Int) < (k : Int) := by omega
   have w1 : IntKind.i64.wrap (8 * (t : Int)) = 8 * (t : Int) := by rw [IntKind.wrap_i64]; omega
   have hv : (n : Int) / 2 ^ (8 * t) % 256 = ((n / 256 ^ t % 256 : Nat) : Int) := by
    have h2 : (2 : Nat) ^ (8 * t) = 256 ^ t := by rw [Nat.pow_mul]
    have h3 : (2 : Int) ^ (8 * t) = ((2 ^ (8 * t) : Nat) : Int) := by simp
    rw [h3, h2]
    first | rfl | simp
   have hnew : ac (wr.setCell ⟨g, off + i, none⟩ (.int .u8 ((n : Int) / 2 ^ (8 * t) % 256))) g ty (af (cY L off k n (t + 1))) := by
    have h1 := ax hrow (off + i) (.int .u8 ((n : Int) / 2 ^ (8 * t) % 256))
    unfold ac
    rw [h1, <- hset, hv]
    have h2 : (UInt8.ofNat (n / 256 ^ t % 256)).toNat = n / 256 ^ t % 256 := by rw [UInt8.toNat_ofNat']; omega
    simp [af, List.map_set, h2]
   have HNEW := aa hnew
   have hBn := hB.setCell (p := ⟨g, off + i, none⟩) (Nat.le_refl _) (.int .u8 ((n : Int) / 2 ^ (8 * t) % 256))
   clear hi hset hlen hy hv hnew
   go_wp2
   exact ⟨⟨t + 1, by omega, by simp, HNEW.out, hBn, by simpa using hsz, fun q hq => (Below.heap_setCell _ _ _ _ hq).trans (hoth q hq)⟩, by simp [intOf]; omega⟩
  ·obtain rfl : t = k := by omega
   go_wp2
   refine bodyPost_end (by simp [results, Tryz.results118, go_sem]; try rfl) rfl ?_
   exact ⟨⟨_, rfl⟩, hrow, hB, hsz, hoth⟩
theorem fR {P : Program} {f : FuncId} {args : Array Value} {w : World} {v : Value} (h : Calls P f args w fun e w' => e = .returned v /\ w = w') : Calls P f args w (fun e w' => e = .returned v /\ w' = w) :=
 h.mono fun _ _ ⟨h1, h2⟩ => ⟨h1, h2.symm⟩
theorem gT (x y : aX) : IntKind.u32.wrap (wv x + wv y) = wv (x + y) := by rw [IntKind.wrap_u32, qD]
theorem pg {P : Program} {f : FuncId} {args : Array Value} {w : World} {a n : Nat} {v : Value}
  (h : Calls P f args (w.drewN (a + n)) fun e w' => e = .returned v /\ w' = w.drewN (a + n)) :
  Calls P f args (w.drewN (a + n)) fun e w'' => e = .returned v /\ ∃ m, w'' = w.drewN (a + m) :=
 h.mono fun _ _ ⟨he, hm⟩ => ⟨he, n, hm⟩
def wl (n : Nat) (l : List aX) : List Value := (l.map fun x => .int .u32 (wv x)) ++ List.replicate (n - l.length) (.int .u32 0)
theorem fy {n i : Nat} {l : List aX} (h : i < l.length) : (wl n l)[i]? = some (.int .u32 (wv (l.getD i 0))) := by
 unfold wl
 rw [List.getElem?_append_left (by simpa using h), List.getElem?_map, List.getElem?_eq_getElem h]
 simp [List.getD_eq_getElem?_getD, List.getElem?_eq_getElem h]
theorem Bw {n : Nat} {l : List aX} (x : aX) (h : l.length < n) : (wl n l).set l.length (.int .u32 (wv x)) = wl n (l ++ [x]) := by
 unfold wl
 rw [List.set_append_right _ _ (by simp), List.map_append, List.length_append, List.append_assoc]
 congr 1
 simp only [List.length_map, Nat.sub_self, List.length_singleton, List.map_cons, List.map_nil, List.singleton_append]
 rw [show n - l.length = (n - (l.length + 1)) + 1 by omega, List.replicate_succ, zC]
theorem mi {n i : Nat} {l : List aX} (h : l.length <= i) (hi : i < n) : (wl n l)[i]? = some (.int .u32 0) := by
 unfold wl
 rw [List.getElem?_append_right (by simpa using h), List.getElem?_replicate, if_pos (by simp; omega)]
theorem nm {w : World} {g n : Nat} {t : TypeId} {l : List aX} (h : ac w g t (wl n l)) (x : aX) (hl : l.length < n) (i : Nat) (hi : i = l.length) : ac (w.setCell ⟨g, i, none⟩ (.int .u32 (wv x))) g t (wl n (l ++ [x])) := by
 subst hi
 unfold ac
 rw [ax h, <- Bw x hl]
 simp
def db (s : S8) : List Value := [.int .u32 (wv s.a), .int .u32 (wv s.b), .int .u32 (wv s.c), .int .u32 (wv s.d), .int .u32 (wv s.e), .int .u32 (wv s.f), .int .u32 (wv s.g), .int .u32 (wv s.h)]
theorem qE {w : World} {g : Nat} {t : TypeId} {a0 a1 a2 a3 a4 a5 a6 a7 : Value} (h : ac w g t [a0, a1, a2, a3, a4, a5, a6, a7]) :
  w.cell? ⟨g, 0, none⟩ = some a0 /\ w.cell? ⟨g, 1, none⟩ = some a1 /\ w.cell? ⟨g, 2, none⟩ = some a2 /\ w.cell? ⟨g, 3, none⟩ = some a3 /\ w.cell? ⟨g, 4, none⟩ = some a4 /\ w.cell? ⟨g, 5, none⟩ = some a5 /\ w.cell? ⟨g, 6, none⟩ = some a6 /\ w.cell? ⟨g, 7, none⟩ = some a7 :=
 ⟨ac.cell h 0, ac.cell h 1, ac.cell h 2, ac.cell h 3, ac.cell h 4, ac.cell h 5, ac.cell h 6, ac.cell h 7⟩
theorem Ch : (Tryz.prog.info? 117).map (·.size) = some 1 := by kernel_rfl
theorem Cz (k w : aX) (v : S8) : v.h + i8 v.e 6 11 25 + (v.g ^^^ (v.e &&& (v.f ^^^ v.g))) + k + w = pM k w v := by rw [B7]; rfl
theorem CA (v : S8) : i8 v.a 2 13 22 + ((v.a &&& v.b) ||| (v.c &&& (v.a ||| v.b))) = qM v := by rw [Bu]; rfl
def dv (s : S8) : List aX := [s.a, s.b, s.c, s.d, s.e, s.f, s.g, s.h]
theorem ph (s : S8) {i : Nat} (h : i < 8) : (db s)[i]? = some (.int .u32 (wv ((dv s).getD i 0))) := by
 match i, h with
 | 0, _ => rfl
 | 1, _ => rfl
 | 2, _ => rfl
 | 3, _ => rfl
 | 4, _ => rfl
 | 5, _ => rfl
 | 6, _ => rfl
 | 7, _ => rfl
def kN (s v : S8) (i : Nat) : List Value := (List.range 8).map fun j => .int .u32 (wv (if j < i then (dv s).getD j 0 + (dv v).getD j 0 else (dv s).getD j 0))
theorem vX (s v : S8) : kN s v 0 = db s := rfl
theorem yu (s v : S8) : kN s v 8 = db (uf s v) := rfl
theorem yv (s v : S8) {i : Nat} (h : i < 8) : (kN s v i)[i]? = some (.int .u32 (wv ((dv s).getD i 0))) := by
 unfold kN
 rw [List.getElem?_map, List.getElem?_range h]
 simp
theorem yw (s v : S8) {i : Nat} (h : i < 8) : (kN s v i).set i (.int .u32 (wv ((dv s).getD i 0 + (dv v).getD i 0))) = kN s v (i + 1) := by
 match i, h with
 | 0, _ => rfl
 | 1, _ => rfl
 | 2, _ => rfl
 | 3, _ => rfl
 | 4, _ => rfl
 | 5, _ => rfl
 | 6, _ => rfl
 | 7, _ => rfl
def n9 (w : World) : Prop := (∀ t, t < 64 -> w.cell? ⟨1, t, none⟩ = some (.int .u32 (wv (Kl.getD t 0)))) 
theorem n9.below {w w' : World} (h : n9 w) (hb : Below w.heap.size w w') : n9 w' := fun t ht => ag hb (h t ht)
theorem ob (X b off n c : Nat) (s : S8) (l : List UInt8) (w : World) (hn : 64 <= n) (hc : n <= c) (hl : 64 <= l.length) (hK : n9 w) (hX : ac w X 150 (db s)) (_hbX : b ≠ X) (_h1X : 1 ≠ X)
  (hb : ∀ i x, i < 64 -> l[i]? = some x -> w.cell? ⟨b, off + i, none⟩ = some (.int .u8 x.toNat)) :
  Calls Tryz.prog 117 #[.pointer (some ⟨X, 0, none⟩), .slice (some ⟨b, off, none⟩) n c] w fun e w' => (∃ v, e = .returned v) /\ ac w' X 150 (db (gS s l)) /\ w.grownBy w' (some X) := by
 have HB := aa hb
 have HX := aa hX
 have HK := aa hK
 clear hb hX hK
 go_enter Tryz.func117, Tryz.ntmps117
 go_wp2
 obtain ⟨A, hA⟩ := zg w.heap.size
 obtain ⟨w1, hw1⟩ := zg (w.alloc (.cells zG 171))
 rw [<- hw1, <- hA]
 have hrow : ac w1 A 171 (wl 64 (dD l 0)) := by rw [hw1, hA]; exact ak _ rfl
 have hB1 : Below w.heap.size w w1 := by rw [hw1]; exact (Below.refl _ w).alloc (Nat.le_refl _) _
 have hs1 : w1.heap.size = A + 1 := by rw [hw1, hA]; simp
 have HROW := aa hrow
 have HA := aa hA
 clear hw1 hA hrow
 go_loopw [14] (fun s14 wr => ∃ k : Nat, k <= 16 /\ s14 = .int .i64 k /\ ac wr A 171 (wl 64 (dD l k)) /\ Below w.heap.size w wr /\ wr.heap.size = A + 1) (fun s14 _ => 16 - (intOf s14).toNat)
 case atStart => exact ⟨0, by omega, rfl, HROW.out, hB1, hs1⟩
 case round =>
  clear HROW hB1 hs1
  obtain ⟨k, hk, rfl, hrow, hB, hsz⟩ := hrel
  by_cases hlt : k < 16
  ·obtain ⟨x0, e0⟩ : ∃ x, l[4 * k]? = some x := ⟨_, List.getElem?_eq_getElem (by omega)⟩
   obtain ⟨x1, e1⟩ : ∃ x, l[4 * k + 1]? = some x := ⟨_, List.getElem?_eq_getElem (by omega)⟩
   obtain ⟨x2, e2⟩ : ∃ x, l[4 * k + 2]? = some x := ⟨_, List.getElem?_eq_getElem (by omega)⟩
   obtain ⟨x3, e3⟩ : ∃ x, l[4 * k + 3]? = some x := ⟨_, List.getElem?_eq_getElem (by omega)⟩
   have c0 := ag hB (HB.out _ _ (by omega) e0)
   have c1 := ag hB (HB.out _ _ (by omega) e1)
   have c2 := ag hB (HB.out _ _ (by omega) e2)
   have c3 := ag hB (HB.out _ _ (by omega) e3)
   have hwd : gR x0 x1 x2 x3 = gl l k := by simp [gl, List.getD_eq_getElem?_getD, e0, e1, e2, e3]
   have HWD := aa hwd
   have hst := nm hrow (gR x0 x1 x2 x3) (by rw [ex]; omega) k (by rw [ex])
   rw [hwd, <- n7, <- hwd] at hst
   have HST := aa hst
   have hBs := hB.setCell (p := ⟨A, k, none⟩) (by show _ <= A; have := HA.out; omega) (.int .u32 (wv (gR x0 x1 x2 x3)))
   have hcA : wr.cell? ⟨A, k, none⟩ = some (.int .u32 0) := (ac.cell hrow _).trans (mi (by rw [ex]; omega) (by omega))
   have hfz : wr.frozen? ⟨A, k, none⟩ = false := frozen_of_row _ _ _ _ _ hrow
   clear hrow hwd hst e0 e1 e2 e3
   have k0 : (0 : Int) <= 4 * (k : Int) := by omega
   have k1 : 4 * (k : Int) <= (n : Int) := by omega
   have k2 : ¬ (c : Int) = 4 * (k : Int) := by omega
   go_wp2_with fail
   refine (yt b (off + 4 * k) (n - 4 * k) (c - 4 * k) x0 x1 x2 x3 _ (by omega) (by omega) (by first | exact c0 | simpa using c0) (by rw [Nat.add_assoc]; exact c1) (by rw [Nat.add_assoc]; exact c2) (by rw [Nat.add_assoc]; exact c3)).mono ?_
   rintro e w2 ⟨rfl, rfl⟩
   clear c0 c1 c2 c3 k0 k1 k2
   go_wp2
   go_roundw
   case rel => exact ⟨k + 1, by omega, by go_num, HST.out, hBs, by simpa using hsz⟩
   case measure => simp [intOf]; omega
  ·obtain rfl : k = 16 := by omega
   clear hlt
   rw [show ((16 : Nat) : Int) = 16 from rfl]
   have hws := ex l 16
   obtain ⟨L0, hL0⟩ := zg (dD l 16)
   rw [<- hL0] at hrow hws
   have HL0 := aa hL0
   have HWS := aa hws
   have HROW := aa hrow
   obtain ⟨w3, hw3⟩ := zg wr
   rw [<- hw3] at hB HROW hsz ⊢
   clear hL0 hws hrow hw3
   go_wp2
   go_loopw [6] (fun s6 wr => ∃ k : Nat, k <= 48 /\ s6 = .int .i64 ((16 + k : Nat) : Int) /\ ac wr A 171 (wl 64 (cJ L0 k)) /\ Below w.heap.size w wr /\ wr.heap.size = A + 1) (fun s6 _ => 64 - (intOf s6).toNat)
   case atStart => exact ⟨0, by omega, rfl, HROW.out, hB, hsz⟩
   case round =>
    clear HROW hB hsz
    obtain ⟨k, hk, rfl, hrow, hB, hsz⟩ := hrel
    have hlen := lD HWS.out k
    obtain ⟨t, ht⟩ := zg (16 + k)
    rw [<- ht]
    have h16 : 16 <= t := by omega
    by_cases hlt : t < 64
    ·obtain ⟨i15, h15⟩ := zg (t - 15)
     obtain ⟨i2, h2⟩ := zg (t - 2)
     obtain ⟨i0, h0⟩ := zg (t - 16)
     obtain ⟨i7, h7⟩ := zg (t - 7)
     have q15 : (t : Int) - 15 = (i15 : Int) := by omega
     have q2 : (t : Int) - 2 = (i2 : Int) := by omega
     have q0 : (t : Int) - 16 = (i0 : Int) := by omega
     have q7 : (t : Int) - 7 = (i7 : Int) := by omega
     have r15 : (i15 : Int) < 64 := by omega
     have r2 : (i2 : Int) < 64 := by omega
     have r0 : (i0 : Int) < 64 := by omega
     have r7 : (i7 : Int) < 64 := by omega
     have g15 := (ac.cell hrow i15).trans (fy (by omega))
     have g2 := (ac.cell hrow i2).trans (fy (by omega))
     have g0 := (ac.cell hrow i0).trans (fy (by omega))
     have g7 := (ac.cell hrow i7).trans (fy (by omega))
     have gt := (ac.cell hrow t).trans (mi (by omega) (by omega))
     have hfz : wr.frozen? ⟨A, t, none⟩ = false := frozen_of_row _ _ _ _ _ hrow
     have hnx : mg (cJ L0 k) t = (cJ L0 k).getD i0 0 + ud ((cJ L0 k).getD i15 0) + (cJ L0 k).getD i7 0 + ue ((cJ L0 k).getD i2 0) := by rw [h15, h2, h0, h7]; rfl
     obtain ⟨x15, hx15⟩ := zg ((cJ L0 k).getD i15 0)
     obtain ⟨x2, hx2⟩ := zg ((cJ L0 k).getD i2 0)
     obtain ⟨x0, hx0⟩ := zg ((cJ L0 k).getD i0 0)
     obtain ⟨x7, hx7⟩ := zg ((cJ L0 k).getD i7 0)
     rw [<- hx15] at g15 hnx
     rw [<- hx2] at g2 hnx
     rw [<- hx0] at g0 hnx
     rw [<- hx7] at g7 hnx
     have hst := nm hrow (mg (cJ L0 k) t) (by omega) t (by omega)
     have hss : cJ L0 (k + 1) = cJ L0 k ++ [mg (cJ L0 k) t] := by rw [ht]; rfl
     rw [<- hss, hnx] at hst
     have HST := aa hst
     have HT := aa ht
     clear hrow hlen ht h15 h2 h0 h7 hx15 hx2 hx0 hx7 hnx hst hss
     go_wp2
     go_quiet (fail)
     go_wp2
     have hs3 : wv x15 / (8 : Int) = wv (x15 >>> 3) := mh x15 3
     have hs10 : wv x2 / (1024 : Int) = wv (x2 >>> 10) := mh x2 10
     have e1 := iu (aE x15 7) (aE x15 18)
     have e2 := iu (aE x15 7 ^^^ aE x15 18) (x15 >>> 3)
     have e3 := iu (aE x2 17) (aE x2 19)
     have e4 := iu (aE x2 17 ^^^ aE x2 19) (x2 >>> 10)
     have v0 : IntKind.i64.wrap (i0 : Int) = (i0 : Int) := by rw [IntKind.wrap_i64]; omega
     have v7 : IntKind.i64.wrap (i7 : Int) = (i7 : Int) := by rw [IntKind.wrap_i64]; omega
     have e5 := gT x0 (aE x15 7 ^^^ aE x15 18 ^^^ x15 >>> 3)
     have e6 := gT (x0 + (aE x15 7 ^^^ aE x15 18 ^^^ x15 >>> 3)) x7
     have e7 := gT (x0 + (aE x15 7 ^^^ aE x15 18 ^^^ x15 >>> 3) + x7) (aE x2 17 ^^^ aE x2 19 ^^^ x2 >>> 10)
     refine wp_region_still_tail 29 (by kernel_rfl) (by kernel_rfl) ?_
     simp only [List.take_succ_cons, List.take_zero, List.drop_succ_cons, List.drop_zero]
     change wpStill _ _ (World.drew (wr.drewN nq)) _ _ _
     iterate 6 still_step
     still_call (fR (Cy _ _))
     still_step
     still_call (fR (Cd _ _))
     iterate 11 still_step
     still_call (fR (Cc _ _))
     still_step
     still_call (fR (Ce _ _))
     iterate 6 still_step
     refine wpStill_nil ?_
     change wpList _ _ _ _ _ (World.drew (wr.drewN nq))
     have hst5 : ac (((wr.drewN nq).drew).setCell ⟨A, t, none⟩ (.int .u32 (wv (x0 + ud x15 + x7 + ue x2)))) A 171 (wl 64 (cJ L0 (k + 1))) := HST.out
     have gt5 : ((wr.drewN nq).drew).cell? ⟨A, t, none⟩ = some (.int .u32 0) := gt
     have fz5 : ((wr.drewN nq).drew).frozen? ⟨A, t, none⟩ = false := hfz
     have hB5 : Below w.heap.size w ((wr.drewN nq).drew) := (below_drewN hB nq).drew
     have hsz5 : ((wr.drewN nq).drew).heap.size = A + 1 := hsz
     generalize (wr.drewN nq).drew = w5 at *
     have hBs := hB5.setCell (p := ⟨A, t, none⟩) (by show _ <= A; have := HA.out; omega) (.int .u32 (wv (x0 + ud x15 + x7 + ue x2)))
     have HST5 := aa hst5
     clear hst5 gt hfz hB hsz HST e1 e2 e3 e4 e5 e6 e7 hs3 hs10 v0 v7 q15 q2 q0 q7 r15 r2 r0 r7 g15 g2 g0 g7
     go_wp2
     go_roundw
     case rel => exact ⟨k + 1, by have := HT.out; omega, by have := HT.out; (congr 1; omega), HST5.out, hBs, by simpa using hsz5⟩
     case measure => simp [intOf]; omega
    ·obtain rfl : t = 64 := by omega
     obtain rfl : k = 48 := by omega
     clear hlt hlen h16
     have hx := ac.below HX.out hB HX.out.lt
     obtain ⟨f0, f1, f2, f3, f4, f5, f6, f7⟩ := qE hx
     have hrow : ac wr A 171 (wl 64 (cK l)) := by unfold cK; rw [<- HL0.out]; exact hrow
     have HSZ := aa hsz
     clear hsz
     go_wp2
     obtain ⟨V, hV⟩ := zg wr.heap.size
     obtain ⟨w5, hw5⟩ := zg (wr.alloc (.cells #[.int .u32 (wv s.a), .int .u32 (wv s.b), .int .u32 (wv s.c), .int .u32 (wv s.d), .int .u32 (wv s.e), .int .u32 (wv s.f), .int .u32 (wv s.g), .int .u32 (wv s.h)] 150))
     rw [<- hw5, <- hV]
     have hv5 : ac w5 V 150 (db (i9 (cK l) 0 s)) := by rw [hw5, hV]; exact ak _ rfl
     have hr5 : ac w5 A 171 (wl 64 (cK l)) := by rw [hw5]; exact hrow.alloc _
     have hB5 : Below w.heap.size w w5 := by rw [hw5]; exact hB.alloc hB.size _
     have hs5 : w5.heap.size = V + 1 := by rw [hw5, hV]; simp
     have hVA : V = A + 1 := by rw [hV]; exact HSZ.out
     have HVA := aa hVA
     have HV5 := aa hv5
     have HR5 := aa hr5
     clear hw5 hV hVA hv5 hr5 hrow hx hB f0 f1 f2 f3 f4 f5 f6 f7
     go_loopw [69] (fun s69 wr => ∃ k : Nat, k <= 64 /\ s69 = .int .i64 k /\ ac wr A 171 (wl 64 (cK l)) /\ ac wr V 150 (db (i9 (cK l) k s)) /\ Below w.heap.size w wr) (fun s69 _ => 64 - (intOf s69).toNat)
     case atStart => exact ⟨0, by omega, rfl, HR5.out, HV5.out, hB5⟩
     case round =>
      clear HR5 HV5 hB5 hs5
      obtain ⟨k, hk, rfl, hrow, hv, hB⟩ := hrel
      by_cases hlt : k < 64
      ·obtain ⟨v, hve⟩ := zg (i9 (cK l) k s)
       rw [<- hve] at hv
       obtain ⟨kt, hkt⟩ := zg (Kl.getD k 0)
       obtain ⟨wt, hwt⟩ := zg ((cK l).getD k 0)
       have hrn : i9 (cK l) (k + 1) s = lC kt wt v := by rw [hkt, hwt, hve]; rfl
       have HRN := aa hrn
       have gw := (ac.cell hrow k).trans (fy (by rw [n8]; omega))
       have gk := ag hB (HK.out k hlt)
       rw [<- hwt] at gw
       rw [<- hkt] at gk
       obtain ⟨f0, f1, f2, f3, f4, f5, f6, f7⟩ := qE hv
       have k1 : (k : Int) < 64 := by omega
       have e1 := iu v.f v.g
       have e2 := qC v.e (v.f ^^^ v.g)
       have e3 := iu v.g (v.e &&& (v.f ^^^ v.g))
       have e4 := gT v.h (i8 v.e 6 11 25)
       have e5 := gT (v.h + i8 v.e 6 11 25) (v.g ^^^ (v.e &&& (v.f ^^^ v.g)))
       have e6 := gT (v.h + i8 v.e 6 11 25 + (v.g ^^^ (v.e &&& (v.f ^^^ v.g)))) kt
       have e7 := gT (v.h + i8 v.e 6 11 25 + (v.g ^^^ (v.e &&& (v.f ^^^ v.g))) + kt) wt
       rw [Cz] at e7
       obtain ⟨p, hp⟩ := zg (pM kt wt v)
       rw [<- hp] at e7
       have HP := aa hp
       have HROW := aa hrow
       have HV := aa hv
       clear hrn hve hkt hwt hp hrow hv
       go_wp2
       go_quiet ((go_at_call 141; exact Calls.quiet_of_same (fR (yq _ _))))
       go_wp2
       clear e1 e2 e3 e4 e5 e6 e7 gw gk
       obtain ⟨nq0, rfl⟩ := zg nq
       have e1 := qC v.a v.b
       have e2 := uk v.a v.b
       have e3 := qC v.c (v.a ||| v.b)
       have e4 := uk (v.a &&& v.b) (v.c &&& (v.a ||| v.b))
       have e5 := gT (i8 v.a 2 13 22) ((v.a &&& v.b) ||| (v.c &&& (v.a ||| v.b)))
       rw [CA] at e5
       obtain ⟨q, hq⟩ := zg (qM v)
       rw [<- hq] at e5
       have HQ := aa hq
       clear hq
       go_quiet ((go_at_call 141; exact pg (fR (yr _ _))))
       go_wp2
       clear e1 e2 e3 e4 e5 f0 f1 f2 f3 f4 f5 f6 f7
       have hr6 : ac ((wr.drewN nq0).drewN nq) A 171 (wl 64 (cK l)) := HROW.out
       have hv6 : ac ((wr.drewN nq0).drewN nq) V 150 (db v) := HV.out
       have hB6 : Below w.heap.size w ((wr.drewN nq0).drewN nq) := below_drewN (below_drewN hB nq0) nq
       generalize (wr.drewN nq0).drewN nq = w6 at *
       have HR6 := aa hr6
       have HV6 := aa hv6
       have hcells : ∀ (j : Nat) (u : Value), ([.int .u32 (wv v.a), .int .u32 (wv v.b), .int .u32 (wv v.c), .int .u32 (wv v.d), .int .u32 (wv v.e), .int .u32 (wv v.f), .int .u32 (wv v.g)] : List Value)[j]? = some u -> w6.drew.cell? ((⟨V, 0, none⟩ : Addr).add j) = some u := by
        intro j u hu
        rw [Addr.add_lit]
        refine (ac.cell hv6 (0 + j)).trans ?_
        match j, hu with
        | 0, hu => exact hu
        | 1, hu => exact hu
        | 2, hu => exact hu
        | 3, hu => exact hu
        | 4, hu => exact hu
        | 5, hu => exact hu
        | 6, hu => exact hu
        | j + 7, hu => simp at hu
       have HC := aa hcells
       have hb6 : Below V w6 w6.drew := (Below.refl _ _).drew
       obtain ⟨cs, hcs⟩ : ∃ cs : List Value, cs = [.int .u32 (wv v.a), .int .u32 (wv v.b), .int .u32 (wv v.c), .int .u32 (wv v.d), .int .u32 (wv v.e), .int .u32 (wv v.f), .int .u32 (wv v.g)] := ⟨_, rfl⟩
       rw [<- hcs] at HC
       have hcl : cs.length = 7 := by rw [hcs]; rfl
       have hc1 : ∀ u ∈ cs, u.oneCell' = true := by rw [hcs]; intro u hu; simp at hu; rcases hu with rfl | rfl | rfl | rfl | rfl | rfl | rfl <;> rfl
       have HCL := aa hcl
       have HC1 := aa hc1
       have HCS := aa hcs
       clear hr6 hv6 HROW HV hB hcells hcs hcl hc1
       go_region_law (first | (refine step_copy_splice rfl (.tmp 116) (.tmp 117) 174 174 rfl 117 Tryz.underlying174 Ch (some ⟨V, 1, none⟩) (some ⟨V, 0, none⟩) 7 7 7 8 ?hd ?hs V 1 (db v) 150 HV6.out cs HCL.out (fun _ => ⟨rfl, ⟨V, 0, none⟩, rfl, HC.out⟩) (by rw [HCL.out]; show 8 <= 8; omega) HC1.out V w6 hb6 (Nat.le_refl _) ?_; (case hd => simp [Act.eval, Act.put]); (case hs => simp [Act.eval, Act.put]); intro w7 HG7 hB7))
       all_goals
        have hnew : ac w7 V 150 [.int .u32 (wv v.a), .int .u32 (wv v.a), .int .u32 (wv v.b), .int .u32 (wv v.c), .int .u32 (wv v.d), .int .u32 (wv v.e), .int .u32 (wv v.f), .int .u32 (wv v.g)] := by
         have := HG7.out
         rw [HCS.out] at this
         exact this
        have hVA : w.heap.size <= V := by have := HVA.out; have := HA.out; omega
        have HR7 := aa (ac.below HR6.out hB7 (show A < V by have := HVA.out; omega))
        have hb7 := hB6.trans (hB7.mono hVA)
        have h1 := ax (ax hnew 4 (.int .u32 (wv (v.d + p)))) 0 (.int .u32 (wv (p + q)))
        have hend : ac ((w7.setCell ⟨V, 4, none⟩ (.int .u32 (wv (v.d + p)))).setCell ⟨V, 0, none⟩ (.int .u32 (wv (p + q)))) V 150 (db (i9 (cK l) (k + 1) s)) := by
         rw [HRN.out]
         unfold lC
         rw [<- HP.out, <- HQ.out]
         exact h1
        have HEND := aa hend
        have hbe := (hb7.setCell (p := ⟨V, 4, none⟩) hVA (.int .u32 (wv (v.d + p)))).setCell (p := ⟨V, 0, none⟩) hVA (.int .u32 (wv (p + q)))
        have hre : ac ((w7.setCell ⟨V, 4, none⟩ (.int .u32 (wv (v.d + p)))).setCell ⟨V, 0, none⟩ (.int .u32 (wv (p + q)))) A 171 (wl 64 (cK l)) := (HR7.out.setCell (by show A ≠ V; have := HVA.out; omega) _).setCell (by show A ≠ V; have := HVA.out; omega) _
        have HRE := aa hre
        obtain ⟨f0, f1, f2, f3, f4, f5, f6, f7⟩ := qE hnew
        have z0 : w7.frozen? ⟨V, 0, none⟩ = false := frozen_of_row _ _ _ _ _ hnew
        have z4 : w7.frozen? ⟨V, 4, none⟩ = false := frozen_of_row _ _ _ _ _ hnew
        have e1 := qD v.d p
        have e2 := qD p q
        clear hnew h1 hend hre hB7 HG7 f1 f2 f3 f5 f6 f7 hB6 hb6 hb7 HP HQ
        go_wp2
        go_roundw
        case rel => exact ⟨k + 1, by omega, by go_num, HRE.out, HEND.out, hbe⟩
        case measure => simp [intOf]; omega
      ·obtain rfl : k = 64 := by omega
       clear hlt
       have hbX : ac wr X 150 (kN s (i9 (cK l) 64 s) 0) := by rw [vX]; exact ac.below HX.out hB HX.out.lt
       obtain ⟨v, hv0⟩ := zg (i9 (cK l) 64 s)
       rw [<- hv0] at hv hbX
       have HV := aa hv
       have HX0 := aa hbX
       have HV0 := aa hv0
       have hBX : w.grownBy wr (some X) := ⟨hB.os, hB.tape, hB.output, hB.size, fun q hq _ => hB.block q hq⟩
       have hVX : V ≠ X := by have := HVA.out; have := HA.out; have := HX.out.lt; omega
       clear hv hbX hv0 hrow hB
       rw [show ((64 : Nat) : Int) = 64 from rfl]
       obtain ⟨w8, rfl⟩ := zg wr
       go_upto_region 21 with (fail)
       go_wp2
       go_loopw [129] (fun s129 wr => ∃ k : Nat, k <= 8 /\ s129 = .int .i64 k /\ ac wr X 150 (kN s v k) /\ ac wr V 150 (db v) /\ w.grownBy wr (some X)) (fun s129 _ => 8 - (intOf s129).toNat)
       case atStart => exact ⟨0, by omega, rfl, HX0.out, HV.out, hBX⟩
       case round =>
        clear HX0 HV hBX
        obtain ⟨k, hk, rfl, hx, hv, hB⟩ := hrel
        by_cases hlt : k < 8
        ·have gx := (ac.cell hx k).trans (yv s v hlt)
         have gv := (ac.cell hv k).trans (ph v hlt)
         have fx : wr.frozen? ⟨X, k, none⟩ = false := frozen_of_row _ _ _ _ _ hx
         have hs := yw s v hlt
         have hst := ax hx k (.int .u32 (wv ((dv s).getD k 0 + (dv v).getD k 0)))
         have hnew : ac (wr.setCell ⟨X, k, none⟩ (.int .u32 (wv ((dv s).getD k 0 + (dv v).getD k 0)))) X 150 (kN s v (k + 1)) := by
          unfold ac
          rw [hst, <- hs]
          simp
         have hvn : ac (wr.setCell ⟨X, k, none⟩ (.int .u32 (wv ((dv s).getD k 0 + (dv v).getD k 0)))) V 150 (db v) := hv.setCell hVX _
         have e1 := gT ((dv s).getD k 0) ((dv v).getD k 0)
         obtain ⟨xs, hxs⟩ := zg ((dv s).getD k 0)
         obtain ⟨xv, hxv⟩ := zg ((dv v).getD k 0)
         rw [<- hxs] at gx hnew hvn e1
         rw [<- hxv] at gv hnew hvn e1
         have hBn : w.grownBy (wr.setCell ⟨X, k, none⟩ (.int .u32 (wv (xs + xv)))) (some X) := ⟨hB.os, hB.tape, hB.output, by simpa using hB.size, fun q hq hne => (Below.heap_setCell wr ⟨X, k, none⟩ _ q (fun e => hne (by rw [e]))).trans (hB.block q hq hne)⟩
         have HN := aa hnew
         have HVN := aa hvn
         have k1 : (k : Int) < 8 := by omega
         clear hs hst hx hv hxs hxv hB hnew hvn
         go_wp2
         refine wp_region_still_tail 11 (by kernel_rfl) (by kernel_rfl) ?_
         simp only [List.take_succ_cons, List.take_zero, List.drop_succ_cons, List.drop_zero]
         change wpStill _ _ (World.drew wr) _ _ _
         iterate 11 still_step
         refine wpStill_nil ?_
         change wpList _ _ _ _ _ (World.drew wr)
         go_wp2
         go_roundw
         case rel => exact ⟨k + 1, by omega, by go_num, HN.out, HVN.out, ⟨hBn.os, hBn.tape, hBn.output, hBn.size, hBn.block⟩⟩
         case measure => simp [intOf]; omega
        ·obtain rfl : k = 8 := by omega
         have hend : ac wr X 150 (db (gS s l)) := by
          have := hx
          rw [yu, HV0.out] at this
          exact this
         have HEND := aa hend
         clear hx hv hend
         go_wp2
         refine bodyPost_end (by simp [results, Tryz.results117, go_sem]; try rfl) rfl ?_
         exact ⟨⟨_, rfl⟩, HEND.out, hB⟩
structure dV (w : World) : Prop where
 start : ∀ i u, (db bI)[i]? = some u -> w.cell? ⟨0, i, none⟩ = some u
 keys : n9 w
theorem dV.below {w w' : World} (h : dV w) (hb : Below w.heap.size w w') : dV w' := ⟨fun i u hu => ag hb (h.start i u hu), h.keys.below hb⟩
theorem dV.lt {w : World} (h : dV w) : 1 < w.heap.size := World.block_lt_of_cell? _ _ (h.keys 0 (by omega))
def br (l : List UInt8) : Value := .agg (af l).toArray
theorem Sl.drop {α : Type} {R : World -> List Value -> α -> Prop} {w : World} {b off n m : Nat} {xs : List α} (h : Sl 1 R w (some ⟨b, off, none⟩) n xs) (hm : m <= n) : Sl 1 R w (some ⟨b, off + m, none⟩) (n - m) (xs.drop m) := by
 obtain ⟨hl, h⟩ := h
 refine ⟨by simp; omega, ?_⟩
 rcases h with rfl | ⟨b', off', e, hc⟩
 ·exact .inl (by omega)
 ·cases e
  refine .inr ⟨b, off + m, rfl, fun i x hx => ?_⟩
  rw [List.getElem?_drop] at hx
  obtain ⟨vs, h1, h2, h3⟩ := hc _ x hx
  exact ⟨vs, h1, h2, fun j v hv => by have := h3 j v hv; rwa [show off + m + i * 1 + j = off + (m + i) * 1 + j by omega]⟩
theorem Sl.empty {α : Type} {k : Nat} {R : World -> List Value -> α -> Prop} {w : World} (a : Option Addr) {n : Nat} {xs : List α} (hn : n = 0) (hx : xs.length = 0) : Sl k R w a n xs := ⟨by omega, .inl hn⟩
theorem CI (x0 x1 x2 x3 x4 x5 x6 x7 : Value) (w : World) : (Instr.index 150 (.agg #[x0, x1, x2, x3, x4, x5, x6, x7]) (.int .i64 0)).run Tryz.prog w = .ok x0 w := by kernel_rfl
theorem CJ (x0 x1 x2 x3 x4 x5 x6 x7 : Value) (w : World) : (Instr.index 150 (.agg #[x0, x1, x2, x3, x4, x5, x6, x7]) (.int .i64 1)).run Tryz.prog w = .ok x1 w := by kernel_rfl
theorem CK (x0 x1 x2 x3 x4 x5 x6 x7 : Value) (w : World) : (Instr.index 150 (.agg #[x0, x1, x2, x3, x4, x5, x6, x7]) (.int .i64 2)).run Tryz.prog w = .ok x2 w := by kernel_rfl
theorem CL (x0 x1 x2 x3 x4 x5 x6 x7 : Value) (w : World) : (Instr.index 150 (.agg #[x0, x1, x2, x3, x4, x5, x6, x7]) (.int .i64 3)).run Tryz.prog w = .ok x3 w := by kernel_rfl
theorem CM (x0 x1 x2 x3 x4 x5 x6 x7 : Value) (w : World) : (Instr.index 150 (.agg #[x0, x1, x2, x3, x4, x5, x6, x7]) (.int .i64 4)).run Tryz.prog w = .ok x4 w := by kernel_rfl
theorem CN (x0 x1 x2 x3 x4 x5 x6 x7 : Value) (w : World) : (Instr.index 150 (.agg #[x0, x1, x2, x3, x4, x5, x6, x7]) (.int .i64 5)).run Tryz.prog w = .ok x5 w := by kernel_rfl
theorem CO (x0 x1 x2 x3 x4 x5 x6 x7 : Value) (w : World) : (Instr.index 150 (.agg #[x0, x1, x2, x3, x4, x5, x6, x7]) (.int .i64 6)).run Tryz.prog w = .ok x6 w := by kernel_rfl
theorem CP (x0 x1 x2 x3 x4 x5 x6 x7 : Value) (w : World) : (Instr.index 150 (.agg #[x0, x1, x2, x3, x4, x5, x6, x7]) (.int .i64 7)).run Tryz.prog w = .ok x7 w := by kernel_rfl
theorem Bx (s : S8) (k : Nat) (h : k < 8) (w : World) : (Instr.index 150 (.agg #[.int .u32 (wv s.a), .int .u32 (wv s.b), .int .u32 (wv s.c), .int .u32 (wv s.d), .int .u32 (wv s.e), .int .u32 (wv s.f), .int .u32 (wv s.g), .int .u32 (wv s.h)]) (.int .i64 k)).run Tryz.prog w = .ok (.int .u32 (wv ((dv s).getD k 0))) w := by
 match k, h with
 | 0, _ => exact CI _ _ _ _ _ _ _ _ w
 | 1, _ => exact CJ _ _ _ _ _ _ _ _ w
 | 2, _ => exact CK _ _ _ _ _ _ _ _ w
 | 3, _ => exact CL _ _ _ _ _ _ _ _ w
 | 4, _ => exact CM _ _ _ _ _ _ _ _ w
 | 5, _ => exact CN _ _ _ _ _ _ _ _ w
 | 6, _ => exact CO _ _ _ _ _ _ _ _ w
 | 7, _ => exact CP _ _ _ _ _ _ _ _ w
theorem At (w : World) : (Instr.makeSlice 40 (.int .i64 64) (.int .i64 128)).run Tryz.prog w = .ok (.slice (some ⟨w.heap.size, 0, none⟩) 64 128) (w.alloc (.cells (af (List.replicate 128 0)).toArray 5)) := by kernel_rfl
theorem ul (r : List UInt8) (m : Nat) (h : r.length = m) (hm : m <= 128) : splice (af (List.replicate 128 0)) 0 (af r) = af (r ++ List.replicate (128 - m) 0) := by
 subst h
 unfold splice af
 rw [List.take_zero, List.nil_append, List.map_append, <- List.map_drop, List.length_map, List.drop_replicate, Nat.zero_add]
theorem yx (r : List UInt8) (m : Nat) (h : r.length = m) (hm : m < 128) : (r ++ List.replicate (128 - m) (0 : UInt8)).set m 128 = r ++ (128 :: List.replicate (127 - m) 0) := by
 subst h
 rw [List.set_append_right _ _ (Nat.le_refl _), Nat.sub_self, show 128 - r.length = (127 - r.length) + 1 by omega, List.replicate_succ, zC]
theorem yy (r : List UInt8) (n m e : Nat) (h : r.length = m) (he : e = 1 /\ m <= 55 \/ e = 2 /\ 55 < m /\ m < 64) : (fw r n).length = 64 * e := by
 simp only [fw, List.length_append, List.length_replicate, eN, List.length_singleton, dO, h]
 omega
theorem Au (r : List UInt8) (n m e : Nat) (h : r.length = m) (he : e = 1 /\ m <= 55 \/ e = 2 /\ 55 < m /\ m < 64) :
  ∃ tl, cY (r ++ (128 :: List.replicate (127 - m) 0)) (64 * e - 8) 8 (n * 8) 8 = fw r n ++ tl /\ tl.length = 128 - 64 * e := by
 refine ⟨(r ++ (128 :: List.replicate (127 - m) 0)).drop (64 * e), ?_, ?_⟩
 ·unfold cY fw
  have e1 : 64 * e - 8 + (8 - 8) = m + 1 + (64 * e - 9 - m) := by omega
  rw [e1, show 64 * e - 8 + 8 = 64 * e by omega]
  have e2 : (r ++ (128 :: List.replicate (127 - m) 0)).take (m + 1 + (64 * e - 9 - m)) = r ++ ([0x80] ++ List.replicate (dO r.length) 0) := by
   rw [show r ++ (128 :: List.replicate (127 - m) (0 : UInt8)) = (r ++ [128]) ++ List.replicate (127 - m) 0 by simp, List.take_append, List.take_of_length_le (by simp; omega)]
   rw [show m + 1 + (64 * e - 9 - m) - (r ++ [(128 : UInt8)]).length = 64 * e - 9 - m by simp; omega, List.take_replicate, h, show min (64 * e - 9 - m) (127 - m) = dO m by unfold dO; omega]
   simp
  rw [e2]
  simp
 ·simp
  omega
theorem lF (l : List UInt8) (i : Nat) (x : UInt8) : (af l).set i (.int .u8 x.toNat) = af (l.set i x) := by simp [af, List.map_set]
theorem cd {l : List UInt8} {i : Nat} {x : UInt8} (h : l[i]? = some x) : (af l)[i]? = some (.int .u8 x.toNat) := by simp [af, h]
def kO (s : S8) (k : Nat) : List UInt8 := ((dv s).take k).flatMap (fun x => be 4 x.toNat) ++ List.replicate (32 - 4 * k) 0
theorem vY (s : S8) : kO s 0 = List.replicate 32 0 := rfl
theorem yz (s : S8) : kO s 8 = dP s := by simp [kO, dP, dv]
theorem qV (s : S8) {k : Nat} (h : k <= 8) : (((dv s).take k).flatMap (fun x => be 4 x.toNat)).length = 4 * k := by
 match k, h with
 | 0, _ => rfl
 | 1, _ => simp [dv, eN]
 | 2, _ => simp [dv, eN]
 | 3, _ => simp [dv, eN]
 | 4, _ => simp [dv, eN]
 | 5, _ => simp [dv, eN]
 | 6, _ => simp [dv, eN]
 | 7, _ => simp [dv, eN]
 | 8, _ => simp [dv, eN]
theorem yA (s : S8) {k : Nat} (h : k <= 8) : (kO s k).length = 32 := by
 simp only [kO, List.length_append, qV s h, List.length_replicate]
 omega
theorem yB (s : S8) {k : Nat} (h : k < 8) : cY (kO s k) (4 * k) 4 ((dv s).getD k 0).toNat 4 = kO s (k + 1) := by
 have hp := qV s (show k <= 8 by omega)
 have hl : k < (dv s).length := by simpa [dv] using h
 unfold cY kO
 rw [show 4 * k + (4 - 4) = 4 * k by omega, List.take_append_of_le_length (by omega), List.take_of_length_le (by omega), List.drop_append, List.drop_of_length_le (by omega), List.nil_append, List.drop_replicate, hp]
 rw [List.take_succ_eq_append_getElem hl, List.flatMap_append]
 congr 1
 ·congr 1
  simp [List.getD_eq_getElem?_getD, List.getElem?_eq_getElem hl]
 ·congr 1
  omega
theorem ey : (Tryz.prog.info? 48).map (·.size) = some 32 := by kernel_rfl
theorem je (l : List UInt8) : (af l).toArray.all (·.oneCell') = true := by
 simp [af, Value.oneCell']
theorem By (g : Nat) (w : World) : (Instr.sliceAt 48 (.pointer (some ⟨g, 0, none⟩)) (some (.int .i64 0)) (some (.int .i64 4)) none).run Tryz.prog w = .ok (.slice (some ⟨g, 0, none⟩) 4 32) w := by kernel_rfl
theorem Bz (g : Nat) (w : World) : (Instr.sliceAt 48 (.pointer (some ⟨g, 0, none⟩)) (some (.int .i64 4)) (some (.int .i64 8)) none).run Tryz.prog w = .ok (.slice (some ⟨g, 4, none⟩) 4 28) w := by kernel_rfl
theorem BA (g : Nat) (w : World) : (Instr.sliceAt 48 (.pointer (some ⟨g, 0, none⟩)) (some (.int .i64 8)) (some (.int .i64 12)) none).run Tryz.prog w = .ok (.slice (some ⟨g, 8, none⟩) 4 24) w := by kernel_rfl
theorem BB (g : Nat) (w : World) : (Instr.sliceAt 48 (.pointer (some ⟨g, 0, none⟩)) (some (.int .i64 12)) (some (.int .i64 16)) none).run Tryz.prog w = .ok (.slice (some ⟨g, 12, none⟩) 4 20) w := by kernel_rfl
theorem BC (g : Nat) (w : World) : (Instr.sliceAt 48 (.pointer (some ⟨g, 0, none⟩)) (some (.int .i64 16)) (some (.int .i64 20)) none).run Tryz.prog w = .ok (.slice (some ⟨g, 16, none⟩) 4 16) w := by kernel_rfl
theorem BD (g : Nat) (w : World) : (Instr.sliceAt 48 (.pointer (some ⟨g, 0, none⟩)) (some (.int .i64 20)) (some (.int .i64 24)) none).run Tryz.prog w = .ok (.slice (some ⟨g, 20, none⟩) 4 12) w := by kernel_rfl
theorem BE (g : Nat) (w : World) : (Instr.sliceAt 48 (.pointer (some ⟨g, 0, none⟩)) (some (.int .i64 24)) (some (.int .i64 28)) none).run Tryz.prog w = .ok (.slice (some ⟨g, 24, none⟩) 4 8) w := by kernel_rfl
theorem BF (g : Nat) (w : World) : (Instr.sliceAt 48 (.pointer (some ⟨g, 0, none⟩)) (some (.int .i64 28)) (some (.int .i64 32)) none).run Tryz.prog w = .ok (.slice (some ⟨g, 28, none⟩) 4 4) w := by kernel_rfl
theorem CB (g i : Nat) (h : i < 8) (w : World) : (Instr.sliceAt 48 (.pointer (some ⟨g, 0, none⟩)) (some (.int .i64 (4 * (i : Int)))) (some (.int .i64 (4 * (i : Int) + 4))) none).run Tryz.prog w = .ok (.slice (some ⟨g, 4 * i, none⟩) 4 (32 - 4 * i)) w := by
 match i, h with
 | 0, _ => exact By g w
 | 1, _ => exact Bz g w
 | 2, _ => exact BA g w
 | 3, _ => exact BB g w
 | 4, _ => exact BC g w
 | 5, _ => exact BD g w
 | 6, _ => exact BE g w
 | 7, _ => exact BF g w
theorem me (a : Option Addr) (n c : Nat) (l : List UInt8) (w : World) (hn : n <= 1000000) (hc : n <= c) (hi : dV w) (h : Sl 1 ai w a n l) :
  Calls Tryz.prog 93 #[.slice a n c] w fun e w' => e = .returned (br (cL l)) /\ Below w.heap.size w w' := by
 have H := aa h
 have HI := aa hi
 have hlt := hi.lt
 obtain ⟨f0, f1, f2, f3, f4, f5, f6, f7⟩ : w.cell? ⟨0, 0, none⟩ = some (.int .u32 (wv bI.a)) /\ w.cell? ⟨0, 1, none⟩ = some (.int .u32 (wv bI.b)) /\ w.cell? ⟨0, 2, none⟩ = some (.int .u32 (wv bI.c)) /\ w.cell? ⟨0, 3, none⟩ = some (.int .u32 (wv bI.d)) /\ w.cell? ⟨0, 4, none⟩ = some (.int .u32 (wv bI.e)) /\ w.cell? ⟨0, 5, none⟩ = some (.int .u32 (wv bI.f)) /\ w.cell? ⟨0, 6, none⟩ = some (.int .u32 (wv bI.g)) /\ w.cell? ⟨0, 7, none⟩ = some (.int .u32 (wv bI.h)) :=
  ⟨hi.start 0 _ rfl, hi.start 1 _ rfl, hi.start 2 _ rfl, hi.start 3 _ rfl, hi.start 4 _ rfl, hi.start 5 _ rfl, hi.start 6 _ rfl, hi.start 7 _ rfl⟩
 have h0 : 0 < w.heap.size := by omega
 clear h hi
 go_enter Tryz.func93, Tryz.ntmps93
 go_wp2
 clear f0 f1 f2 f3 f4 f5 f6 f7
 obtain ⟨D0, hD0⟩ := zg w.heap.size
 obtain ⟨w1, hw1⟩ := zg ((w.alloc (.cells zI 48)).alloc (.cells #[.int .u32 (wv bI.a), .int .u32 (wv bI.b), .int .u32 (wv bI.c), .int .u32 (wv bI.d), .int .u32 (wv bI.e), .int .u32 (wv bI.f), .int .u32 (wv bI.g), .int .u32 (wv bI.h)] 150))
 rw [<- hw1, <- hD0]
 have hx1 : ac w1 (D0 + 1) 150 (db (c6 0 bI l)) := by rw [hw1, hD0]; exact ak _ (by simp)
 have hd1 : ac w1 D0 48 (af (List.replicate 32 0)) := by rw [hw1, hD0]; exact aB _ (ak _ rfl)
 have hB1 : Below w.heap.size w w1 := by rw [hw1]; exact ((Below.refl _ w).alloc (Nat.le_refl _) _).alloc (by simp) _
 have HX1 := aa hx1
 have HD1 := aa hd1
 have HD0 := aa hD0
 have HS := aa (H.out.below ai.keeps hB1)
 have HLEN : Hid (l.length = n) := H.out.len
 have hbl : ∀ ad, a = some ad -> 0 < n - 64 * 0 -> ad.block < w.heap.size := by
  intro ad had hpos
  rcases H.out.bytes with h0 | ⟨b, off, h0, hc0⟩
  ·omega
  ·obtain ⟨x, hx⟩ := av H.out.len (show 0 < n by omega)
   have := World.block_lt_of_cell? _ _ (hc0 0 x hx)
   rw [h0] at had
   cases had
   exact this
 have HBL := aa hbl
 clear hw1 hD0 hx1 hd1 hbl
 go_loopw [5] (fun s5 wr => ∃ (k : Nat) (A : Option Addr), 64 * k <= n /\ s5 = .slice A (n - 64 * k) (c - 64 * k) /\ Sl 1 ai wr A (n - 64 * k) (l.drop (64 * k)) /\ ac wr (D0 + 1) 150 (db (c6 k bI l)) /\ ac wr D0 48 (af (List.replicate 32 0)) /\ (∀ ad, A = some ad -> 0 < n - 64 * k -> ad.block < w.heap.size) /\ Below w.heap.size w wr) (fun s5 _ => match s5 with | .slice _ n _ => n | _ => 0)
 case atStart => exact ⟨0, a, by omega, rfl, by simpa using HS.out, HX1.out, HD1.out, HBL.out, hB1⟩
 case round =>
  clear HX1 HD1 HS HBL hB1
  obtain ⟨k, A, hk, rfl, hsl, hx, hd, hbl, hB⟩ := hrel
  obtain ⟨m, hm⟩ := zg (n - 64 * k)
  obtain ⟨cc, hcc⟩ := zg (c - 64 * k)
  rw [<- hm] at hsl hbl ⊢
  rw [<- hcc]
  have hmc : m <= cc := by omega
  have HM := aa hm
  have HCC := aa hcc
  clear hm hcc
  by_cases hge : 64 <= m
  ·obtain ⟨b, off, rfl, hcells⟩ : ∃ b off, A = some ⟨b, off, none⟩ /\ ∀ i x, (l.drop (64 * k))[i]? = some x -> wr.cell? ⟨b, off + i, none⟩ = some (.int .u8 x.toNat) := by
    rcases hsl.bytes with h0 | ⟨b, off, h0, hc⟩
    ·omega
    ·exact ⟨b, off, h0, hc⟩
   have hbw : b < w.heap.size := hbl _ rfl (by omega)
   have HC := aa hcells
   have HSL := aa hsl
   have HX := aa hx
   have HD := aa hd
   have hz := hB.size
   have hI2 := HI.out.below hB
   have HI2 := aa hI2
   have k1 : (64 : Int) <= (m : Int) := by omega
   have k2 : (64 : Int) <= (cc : Int) := by omega
   clear hcells hsl hx hd hI2 hbl
   go_wp2_with fail
   refine (ob (D0 + 1) b off 64 cc (c6 k bI l) (l.drop (64 * k)) wr (by omega) (by omega) (by rw [List.length_drop, HLEN.out]; have := HM.out; omega) HI2.out.keys HX.out (by have := HD0.out; omega) (by have := HD0.out; omega) (fun i x _ hx => HC.out i x hx)).mono ?_
   rintro e w2 ⟨⟨_, rfl⟩, hx2, hg2⟩
   rw [<- lE] at hx2
   have hB2 : Below w.heap.size w w2 := hB.grown hg2 hB.size (fun q hq => by cases hq; have := HD0.out; omega)
   have hd2 : ac w2 D0 48 (af (List.replicate 32 0)) := (hg2.block D0 HD.out.lt (by simp)).trans HD.out
   have hsl2 : Sl 1 ai w2 (some ⟨b, off, none⟩) m (l.drop (64 * k)) := by
    rcases HSL.out with ⟨h1, h2⟩
    refine ⟨h1, ?_⟩
    rcases h2 with h2 | ⟨b', off', e, h2⟩
    ·exact .inl h2
    ·cases e
     refine .inr ⟨b, off, rfl, fun i x hx => ?_⟩
     obtain ⟨vs, h3, h4, h5⟩ := h2 i x hx
     exact ⟨vs, h3, h4, fun j v hv => (World.cell?_of_block (hg2.block b (by omega) (by have := HD0.out; simp; omega))).trans (h5 j v hv)⟩
   have hm1 : n - 64 * (k + 1) = m - 64 := by have := HM.out; omega
   have hc1 : c - 64 * (k + 1) = cc - 64 := by have := HCC.out; omega
   have hdd : (l.drop (64 * k)).drop 64 = l.drop (64 * (k + 1)) := by rw [List.drop_drop]; congr 1
   have hsl3 : Sl 1 ai w2 (some ⟨b, off + 64, none⟩) (m - 64) (l.drop (64 * (k + 1))) := by
    rw [<- hdd]; exact Sl.drop hsl2 hge
   have HSL3 := aa hsl3
   have HX2 := aa hx2
   have HD2 := aa hd2
   have HM1 := aa hm1
   have HC1 := aa hc1
   have hk1 : 64 * (k + 1) <= n := by have := HM.out; omega
   have hll : m = 64 -> (l.drop (64 * (k + 1))).length = 0 := fun h => by rw [List.length_drop, HLEN.out]; omega
   have HLL := aa hll
   clear HSL HX HD HC HI2 hsl2 hsl3 hx2 hd2 hm1 hc1 hdd hg2 hz hll
   by_cases hcc : cc = 64
   ·obtain rfl : m = 64 := by omega
    subst hcc
    go_wp2
    go_roundw
    case rel => exact ⟨k + 1, _, hk1, by rw [HM1.out, HC1.out], Sl.empty _ (by rw [HM1.out]) (HLL.out trivial), HX2.out, HD2.out, fun _ _ h => by rw [HM1.out] at h; omega, hB2⟩
    case measure => simp
   ·have hcc2 : ¬ (cc : Int) = 64 := by omega
    go_wp2
    go_roundw
    case rel => exact ⟨k + 1, _, hk1, by rw [HM1.out, HC1.out], by rw [HM1.out]; exact HSL3.out, HX2.out, HD2.out, fun ad had _ => by cases had; exact hbw, hB2⟩
    case measure => simp; omega
  ·obtain rfl : k = n / 64 := by have := HM.out; omega
   have hm2 : m = n % 64 := by have := HM.out; omega
   have hpl := uj l
   rw [HLEN.out, <- hm2] at hpl
   obtain ⟨r, hr⟩ := zg (l.drop (64 * (n / 64)))
   rw [<- hr] at hsl hpl
   obtain ⟨s1, hs1⟩ := zg (c6 (n / 64) bI l)
   rw [<- hs1] at hx hpl
   have hrl : r.length = m := hsl.len
   have HPL := aa hpl
   have HRL := aa hrl
   have HSL := aa hsl
   have HX := aa hx
   have HD := aa hd
   have hbl2 : ∀ ad, A = some ad -> 0 < m -> ad.block < w.heap.size := hbl
   have HBL := aa hbl2
   have hz := hB.size
   have hml : m < 64 := by omega
   obtain ⟨w3, rfl⟩ := zg wr
   clear hm2 hpl hr hs1 hsl hx hd hbl hbl2 hk hrl hge HM HCC
   go_upto_region 7 with (fail)
   have hmk := At
   obtain ⟨Z, hZ⟩ := zg (af (List.replicate 128 0))
   rw [<- hZ] at hmk
   have HZ := aa hZ
   clear hZ
   go_upto_region 8 with (fail)
   clear hmk
   obtain ⟨E, hE⟩ := zg w3.heap.size
   obtain ⟨w4, hw4⟩ := zg (w3.alloc (.cells Z.toArray 5))
   rw [<- hw4, <- hE]
   have hS4 : Below w3.heap.size w3 w4 := by rw [hw4]; exact (Below.refl _ w3).alloc (Nat.le_refl _) _
   have hrow : ac w4 E 5 Z := by rw [hw4, hE]; exact ak _ rfl
   have HE := aa hE
   have HROW := aa hrow
   have hED : D0 + 1 < E := by rw [hE]; exact HX.out.lt
   have HX := aa (HX.out.below hS4 HX.out.lt)
   have HD := aa (HD.out.below hS4 HD.out.lt)
   have HSL := aa (HSL.out.below ai.keeps hS4)
   have hB := hB.trans (hS4.mono hz)
   have hEn : w.heap.size <= E := by rw [hE]; exact hz
   clear hw4 hE hS4 hrow hz
   have hb4 : Below E w4 w4 := Below.refl _ _
   obtain ⟨q1, q2, q3, q4⟩ := bV HSL.out
   have Q1 : Hid ((af r).length = Nat.min m 64) := by rw [q1]; show m * 1 = min m 64; omega
   have Q2 : Hid (0 < (af r).length -> ∃ ad, A = some ad /\ ∀ j v, (af r)[j]? = some v -> w4.cell? (ad.add j) = some v) := by
    intro hpos
    cases A with
    | none => have := q2 rfl; rw [q1] at hpos; omega
    | some ad => exact ⟨ad, rfl, q3 ad rfl⟩
   have q5 : 0 + (af r).length <= Z.length := by rw [q1, HZ.out]; simp only [af, List.length_map, List.length_replicate]; omega
   have Q3 := aa q5
   have Q4 := aa q4
   clear q1 q2 q3 q4 q5
   go_upto_region 9 with (refine wpList_copy_splice rfl (.tmp 22) (.tmp 23) 40 40 rfl 5 Tryz.underlying40 qB (some ⟨E, 0, none⟩) A 64 128 m cc ?hd ?hs E 0 Z 5 HROW.out (af r) Q1.out (fun h => ⟨rfl, Q2.out h⟩) Q3.out Q4.out E w4 hb4 (Nat.le_refl _) ?_; (case hd => rfl); (case hs => rfl); intro w5 HG5 hB5)
   have hr5 : ac w5 E 5 (af (r ++ List.replicate (128 - m) 0)) := by
    have := HG5.out
    rw [HZ.out, ul r m HRL.out (by omega)] at this
    exact this
   have hc5 : w5.cell? ⟨E, m, none⟩ = some (.int .u8 0) := (ac.cell hr5 m).trans (by
    rw [cd (x := 0)]
    ·rfl
    ·rw [List.getElem?_append_right (by rw [HRL.out]; omega), HRL.out, Nat.sub_self, List.getElem?_replicate, if_pos (by omega)])
   have hf5 : w5.frozen? ⟨E, m, none⟩ = false := frozen_of_row _ _ _ _ _ hr5
   have hr6 : ac (w5.setCell ⟨E, m, none⟩ (.int .u8 128)) E 5 (af (r ++ (128 :: List.replicate (127 - m) 0))) := by
    have h1 := ax hr5 m (.int .u8 128)
    rw [<- yx r m HRL.out (by omega), <- lF]
    unfold ac
    rw [h1]
    simp
   have hB6 : Below E w4 (w5.setCell ⟨E, m, none⟩ (.int .u8 128)) := hB5.setCell (p := ⟨E, m, none⟩) (Nat.le_refl _) _
   have HR6 := aa hr6
   clear hr5 hr6 hB5 HG5 Q1 Q2 Q3 Q4 HROW HSL HZ
   obtain ⟨e, he, hoff⟩ : ∃ e, (e = 1 /\ m <= 55 \/ e = 2 /\ 55 < m /\ m < 64) /\ e <= 2 := by
    by_cases h : 55 < m
    ·exact ⟨2, .inr ⟨rfl, h, hml⟩, by omega⟩
    ·exact ⟨1, .inl ⟨rfl, by omega⟩, by omega⟩
   obtain ⟨tl, ht1, ht2⟩ := Au r n m e HRL.out he
   have hel := yy r n m e HRL.out he
   have HT1 := aa ht1
   have HT2 := aa ht2
   have HEL := aa hel
   have heb : dh m = e := by unfold dh; omega
   have HEB := aa heb
   clear ht1 ht2 hel heb
   have k1 : (m : Int) < 64 := by omega
   rcases he with ⟨he1, h55⟩ | ⟨he1, h55, _⟩
   all_goals
    have HE1 := aa he1
    clear he1
    go_upto_region 12 with (fail)
    clear hc5 hf5
    generalize w5.setCell ⟨E, m, none⟩ (.int .u8 128) = w6 at *
    go_wp2_with fail
    refine (ig E _ 8 _ (n * 8) 5 _ w6 (by omega) (by omega) (by omega) ?_ HR6.out).mono ?_
    ·simp [HRL.out]; omega
    rintro e' w7 ⟨⟨_, rfl⟩, hr7, hB7, hz7, ho7⟩
    have hr8 : ac w7 E 5 (af (fw r n ++ tl)) := by
     rw [<- HT1.out, HE1.out]
     exact hr7
    have hB8 : Below w.heap.size w w7 := (hB.trans (hB6.mono hEn)).trans (hB7.mono hEn)
    have hx8 : ac w7 (D0 + 1) 150 (db (c6 0 s1 (fw r n))) := (HX.out.below hB6 hED).below hB7 hED
    have hd8 : ac w7 D0 48 (af (List.replicate 32 0)) := (HD.out.below hB6 (by omega)).below hB7 (by omega)
    have HR8 := aa hr8
    have HX8 := aa hx8
    have HD8 := aa hd8
    have hse : Hid (64 * e = 64 * (e - 0)) := rfl
    clear hr7 hB7 hz7 ho7 hr8 hx8 hd8 hB6 HR6 HT1 HX HD hB hb4
    go_wp2
    go_loopw [6] (fun s6 wr => ∃ (k : Nat) (A : Option Addr), k <= e /\ s6 = .slice A (64 * (e - k)) (128 - 64 * k) /\ (k < e -> A = some ⟨E, 64 * k, none⟩) /\ ac wr E 5 (af (fw r n ++ tl)) /\ ac wr (D0 + 1) 150 (db (c6 k s1 (fw r n))) /\ ac wr D0 48 (af (List.replicate 32 0)) /\ Below w.heap.size w wr) (fun s6 _ => match s6 with | .slice _ n _ => n | _ => 0)
    case atStart => exact ⟨0, some ⟨E, 0, none⟩, Nat.zero_le _, by rw [HE1.out], fun _ => rfl, HR8.out, HX8.out, HD8.out, hB8⟩
    case round =>
     clear HR8 HX8 HD8 hB8 hse
     obtain ⟨k, A2, hk, rfl, hA2, hrow, hx, hd, hB⟩ := hrel
     by_cases hlt : k < e
     ·obtain rfl := hA2 hlt
      obtain ⟨O, hO⟩ := zg (64 * k)
      obtain ⟨M, hM⟩ := zg (64 * (e - k))
      obtain ⟨C, hC⟩ := zg (128 - 64 * k)
      rw [<- hC, <- hM, <- hO]
      have k2 : (64 : Int) <= (M : Int) := by omega
      have k3 : (64 : Int) <= (C : Int) := by omega
      have k4 : (0 : Int) < (M : Int) := by omega
      have HO := aa hO
      have HM := aa hM
      have HC := aa hC
      have HROW := aa hrow
      have HX := aa hx
      have HD := aa hd
      have hz := hB.size
      have hI2 := HI.out.below hB
      have HI2 := aa hI2
      clear hO hM hC hA2 hrow hx hd hI2
      go_wp2_with fail
      refine (ob (D0 + 1) E O 64 C (c6 k s1 (fw r n)) ((fw r n).drop (64 * k)) wr (by omega) (by omega) (by rw [List.length_drop, HEL.out]; have := HM.out; omega) HI2.out.keys HX.out (by omega) (by have := HD0.out; omega) (fun i x hi hx => ?_)).mono ?_
      ·rw [List.getElem?_drop] at hx
       rw [HO.out]
       refine (ac.cell HROW.out _).trans (cd ?_)
       rw [List.getElem?_append_left (List.getElem?_eq_some_iff.1 hx).1]
       exact hx
      rintro e' w2 ⟨⟨_, rfl⟩, hx2, hg2⟩
      rw [<- lE] at hx2
      have hB2 : Below w.heap.size w w2 := hB.grown hg2 hB.size (fun q hq => by cases hq; have := HD0.out; omega)
      have hd2 : ac w2 D0 48 (af (List.replicate 32 0)) := (hg2.block D0 HD.out.lt (by simp)).trans HD.out
      have hr2 : ac w2 E 5 (af (fw r n ++ tl)) := (hg2.block E HROW.out.lt (by simp; omega)).trans HROW.out
      have HX2 := aa hx2
      have HD2 := aa hd2
      have HR2 := aa hr2
      clear HROW HX HD HI2 hx2 hd2 hr2 hg2 hz
      by_cases hcc : C = 64
      ·have hcc2 : (C : Int) = 64 := by omega
       have hm1 : M - 64 = 64 * (e - (k + 1)) := by have := HM.out; omega
       have hc1 : C - 64 = 128 - 64 * (k + 1) := by have := HC.out; omega
       have ho1 : k + 1 < e -> (some ⟨E, O, none⟩ : Option Addr) = some ⟨E, 64 * (k + 1), none⟩ := fun h => by have := HC.out; omega
       have HM1 := aa hm1
       have HC1 := aa hc1
       have HO1 := aa ho1
       clear hm1 hc1 ho1
       go_wp2
       go_roundw
       case rel => exact ⟨k + 1, _, hlt, by rw [<- HC1.out, <- HM1.out, hcc], HO1.out, HR2.out, HX2.out, HD2.out, hB2⟩
       case measure => simp; omega
      ·have hcc2 : ¬ (C : Int) = 64 := by omega
       have hm1 : M - 64 = 64 * (e - (k + 1)) := by have := HM.out; omega
       have hc1 : C - 64 = 128 - 64 * (k + 1) := by have := HC.out; omega
       have ho1 : k + 1 < e -> (some ⟨E, O + 64, none⟩ : Option Addr) = some ⟨E, 64 * (k + 1), none⟩ := fun h => by rw [HO.out, Nat.mul_add]
       have HM1 := aa hm1
       have HC1 := aa hc1
       have HO1 := aa ho1
       clear hm1 hc1 ho1
       go_wp2
       go_roundw
       case rel => exact ⟨k + 1, _, hlt, by rw [<- HC1.out, <- HM1.out], HO1.out, HR2.out, HX2.out, HD2.out, hB2⟩
       case measure => simp; omega
     ·obtain rfl : k = e := by omega
      have hsx : c6 k s1 (fw r n) = c6 (dh m) s1 (fw r n) := by rw [HEB.out]
      obtain ⟨sf, hsf⟩ := zg (c6 (dh m) s1 (fw r n))
      rw [hsx, <- hsf] at hx
      have hpl := HPL.out
      rw [<- hsf, <- yz] at hpl
      have HPL2 := aa hpl
      rw [<- vY sf] at hd
      have HX := aa hx
      have HD := aa hd
      obtain ⟨f0, f1, f2, f3, f4, f5, f6, f7⟩ := qE hx
      obtain ⟨M, hM⟩ := zg (64 * (k - k))
      obtain ⟨C, hC⟩ := zg (128 - 64 * k)
      rw [<- hC, <- hM]
      have k2 : (M : Int) = 0 := by omega
      clear hsx hsf hpl hx hd hrow hA2 hM hC
      obtain ⟨w8, rfl⟩ := zg wr
      go_upto_region 16 with (fail)
      go_wp2
      clear f0 f1 f2 f3 f4 f5 f6 f7
      go_loopw [54] (fun s54 wr => ∃ i : Nat, i <= 8 /\ s54 = .int .i64 i /\ ac wr D0 48 (af (kO sf i)) /\ Below w.heap.size w wr) (fun s54 _ => 8 - (intOf s54).toNat)
      case atStart => exact ⟨0, by omega, rfl, HD.out, hB⟩
      case round =>
       clear HD HX hB
       obtain ⟨i, hi, rfl, hd, hB⟩ := hrel
       by_cases hlt : i < 8
       ·have hix := Bx sf i hlt wr
        have hput := yB sf hlt
        have hsl := CB D0 i hlt wr
        have hlen := yA sf hi
        obtain ⟨x, hx⟩ := zg ((dv sf).getD i 0)
        rw [<- hx] at hix hput
        have HPUT := aa hput
        have HD := aa hd
        have hw : IntKind.u64.wrap (wv x) = wv x := by have h1 := Cv x; have h2 := B9 x; rw [IntKind.wrap_u64]; omega
        have k3 : (0 : Int) <= 4 * (i : Int) := by omega
        have k4 : 4 * (i : Int) + 4 <= 32 := by omega
        have hz := hB.size
        have HLEN2 := aa hlen
        clear hx hput hd hlen
        go_wp2_with fail
        refine (ig D0 (4 * i) 4 _ x.toNat 48 _ wr (by have := x.isLt; omega) (by omega) (by omega) (by rw [HLEN2.out]; omega) HD.out).mono ?_
        rintro e' w9 ⟨⟨_, rfl⟩, hr9, hB9, hz9, ho9⟩
        rw [HPUT.out] at hr9
        have HR9 := aa hr9
        have hB10 := hB.trans (hB9.mono (by have := HD0.out; omega))
        clear hr9 hB9 hz9 ho9 hix hw hsl HD
        go_wp2
        go_roundw
        case rel => exact ⟨i + 1, by omega, by go_num, HR9.out, hB10⟩
        case measure => simp [intOf]; omega
       ·obtain rfl : i = 8 := by omega
        rw [<- HPL2.out] at hd
        have hsz : (af (cL l)).toArray.size = 32 := by simp [af, fv]
        have hone := je (cL l)
        have hdv : br (cL l) = .agg (af (cL l)).toArray := rfl
        have hh : wr.heap[D0]? = some (.cells (af (cL l)).toArray 48 (0, 0)) := hd
        obtain ⟨Dv, hDv⟩ := zg ((af (cL l)).toArray)
        rw [<- hDv] at hh hsz hone hdv
        have hi35 := ey
        rw [<- hsz] at hi35
        have HH := aa hh
        have HI35 := aa hi35
        have HONE := aa hone
        have HDV := aa hdv
        clear hd hDv hi35 hone hh hsz hdv hlt
        go_upto_region 21 with (fail)
        go_wp2_with (first | (refine wpList_load_row rfl 48 (.tmp 2) rfl D0 ?e1 48 Dv (0, 0) _ HH.out Tryz.underlying48 rfl HI35.out ?_; (case e1 => rfl)) | (refine wpList_store_row rfl 48 (.tmp 2) (.tmp 68) rfl D0 Dv ?e1 ?e2 48 Dv HH.out HI35.out rfl HONE.out ?_; (case e1 => rfl); (case e2 => rfl)))
        refine bodyPost_ret (results_cell_row rfl _ _ D0 48 Dv (0, 0) _ rfl (setRow_heap _ _ _ _ _ _ HH.out) Tryz.underlying48 rfl HI35.out) rfl ?_
        exact ⟨by rw [HDV.out], below_setRow hB (by rw [HD0.out]; exact Nat.le_refl _) _⟩
theorem yC {w : World} {base : Nat} {e : TypeId} {size n c : Nat} {a : Option Addr} {xs : List Value} (h : w.ownsRow base e size (.slice a n c) n xs) : w.ownsRow base e size (.slice a 0 c) 0 [] := by
 refine ⟨by simp, ?_⟩
 rcases h.2 with ⟨h1, rfl⟩ | ⟨g, cap, cur, h1, h2, h3, h4, h5, h6, _⟩
 ·cases h1; exact .inl ⟨rfl, rfl⟩
 ·simp only [Value.slice.injEq, true_and] at h1
  obtain ⟨rfl, rfl⟩ := h1
  exact .inr ⟨g, c, cur, rfl, h2, h3, Nat.zero_le _, h5, h6, by simp⟩
theorem bU {w : World} {base : Nat} {e : TypeId} {size n : Nat} {v : Value} {xs : List Value} (h : w.ownsRow base e size v n xs) : ∀ k, v.ownBlock = some k -> base <= k := by
 intro k hk
 rcases h.2 with ⟨rfl, _⟩ | ⟨g, cap, cur, rfl, h2, _⟩
 ·simp [Value.ownBlock] at hk
 ·simp only [Value.ownBlock, Option.some.injEq] at hk
  omega
theorem eO : ∃ i : TypeInfo, Tryz.prog.info? 5 = some i /\ i.zero = some (.int .u8 0) /\ i.size = 1 /\ i.bytes = 1 := info_parts jv
theorem yD (m : Nat) (w : World) (hm : m <= 2000000) :
  Calls Tryz.prog 119 #[.slice none 0 0, .int .i64 m] w fun e w' => (∃ va vc, e = .returned (.slice va 0 vc) /\ w'.ownsRow w.heap.size 5 1 (.slice va 0 vc) 0 []) /\ Below w.heap.size w w' := by
 obtain ⟨i0, hi0, hz0, hz1, hz2⟩ := eO
 have h0 : (0 : Int) <= (m : Int) := by omega
 by_cases hp : 0 < m
 ·go_enter Tryz.func119, Tryz.ntmps119
  go_upto_region 5 with (fail)
  go_wp2_with (at_builtin; refine jt rfl (.tmp 20) (.tmp 21) 40 3 rfl w.heap.size 5 i0 (.int .u8 0) 1 .i64 .i64 Tryz.underlying40 Tryz.underlying3 hi0 hz0 hz1 hz2 rfl rfl (.slice none 0 0) 0 [] rfl (World.ownsRow_nil w w.heap.size 5 1) m rfl ?c1 ?c2 (Nat.le_refl _) ?_; rotate_right; intro va vc w2 hown hgrow)
  ·go_ret
   exact ⟨⟨va, vc, rfl, yC hown⟩, (Below.refl _ _).grown hgrow (Nat.le_refl _) (by simp [Value.ownBlock])⟩
  ·unfold maxLen; omega
  ·omega
 ·obtain rfl : m = 0 := by omega
  go_enter Tryz.func119, Tryz.ntmps119
  go_wp2
  go_ret
  exact ⟨⟨none, 0, rfl, World.ownsRow_nil w w.heap.size 5 1⟩, Below.refl _ _⟩
theorem sG (S sc : Nat) (a1 : Option Addr) (n1 c1 : Nat) (l1 : List UInt8) (a2 : Option Addr) (n2 c2 : Nat) (l2 : List UInt8) (w : World) (hn1 : n1 <= 1000000) (hn2 : n2 <= 1000000)
  (h1 : Sl 1 ai w a1 n1 l1) (h2 : Sl 1 ai w a2 n2 l2) (hs1 : w.cell? ⟨S, 0, none⟩ = some (.slice a1 n1 c1)) (hs2 : w.cell? ⟨S, 1, none⟩ = some (.slice a2 n2 c2)) :
  Calls Tryz.prog 94 #[.slice (some ⟨S, 0, none⟩) 2 sc] w fun e w' => (∃ va vc, e = .returned (.slice va (n1 + n2) vc) /\ w'.ownsRow w.heap.size 5 1 (.slice va (n1 + n2) vc) (n1 + n2) (af (l1 ++ l2))) /\ Below w.heap.size w w' := by
 obtain ⟨i0, hi0, hz0, hz1, hz2⟩ := eO
 have H1 := aa h1
 have H2 := aa h2
 have HA2 := aa h2
 have HS2 := aa hs2
 have b0 : (0 : Int) <= (n1 : Int) := by omega
 have b1 : (0 : Int) <= (n2 : Int) := by omega
 clear h1 h2
 go_enter Tryz.func94, Tryz.ntmps94
 go_wp2
 refine wp_loop_rounds 3 ?_
 rw [rounds_succ]
 go_wp2
 rw [rounds_succ]
 go_wp2
 rw [rounds_succ]
 go_wp2_with fail
 have e0 : (n1 : Int) + (n2 : Int) = ((n1 + n2 : Nat) : Int) := by omega
 rw [e0]
 refine (yD (n1 + n2) w (by omega)).mono ?_
 rintro e w2 ⟨⟨va, vc, rfl, hown⟩, hB2⟩
 have g1 := ag hB2 hs1
 have g2 := ag hB2 hs2
 have H1 := aa (H1.out.below ai.keeps hB2)
 have H2 := aa (H2.out.below ai.keeps hB2)
 have HOWN := aa hown
 have hz2' := hB2.size
 clear hs1 hs2 hown e0
 go_upto_region 10 with (fail)
 go_wp2
 refine wp_loop_rounds 3 ?_
 rw [rounds_succ]
 obtain ⟨p1, p2, p3, p4⟩ := bV H1.out
 have P1 := aa p1
 have P2 := aa p2
 have P3 := aa p3
 have P4 := aa p4
 clear p1 p2 p3 p4
 go_wp2_with (at_builtin; refine aD rfl (.tmp 31) (.tmp 32) 40 rfl w.heap.size 5 i0 (.int .u8 0) 1 1 Tryz.underlying40 hi0 hz0 hz1 hz2 rfl (by decide) (.slice va 0 vc) 0 [] rfl HOWN.out a1 n1 c1 (af l1) rfl P1.out P2.out P3.out P4.out ?c1 ?c2 hz2' ?_; rotate_right; intro va2 vc2 w3 hown3 hgrow3)
 ·have hB3 := hB2.grown hgrow3 hz2' (bU HOWN.out)
  have g2 := ag hB3 HS2.out
  rw [Nat.zero_add, List.nil_append] at hown3
  have HOWN3 := aa hown3
  have hz3' := hB3.size
  obtain ⟨p1, p2, p3, p4⟩ := bV (HA2.out.below ai.keeps hB3)
  have P1 := aa p1
  have P2 := aa p2
  have P3 := aa p3
  have P4 := aa p4
  clear p1 p2 p3 p4 hB2 hgrow3 hown3
  rw [rounds_succ]
  go_wp2_with (at_builtin; refine aD rfl (.tmp 31) (.tmp 32) 40 rfl w.heap.size 5 i0 (.int .u8 0) 1 1 Tryz.underlying40 hi0 hz0 hz1 hz2 rfl (by decide) (.slice va2 n1 vc2) n1 (af l1) rfl HOWN3.out a2 n2 c2 (af l2) rfl P1.out P2.out P3.out P4.out ?c3 ?c4 hz3' ?_; rotate_right; intro va3 vc3 w4 hown4 hgrow4)
  ·have hB4 := hB3.grown hgrow4 hz3' (bU HOWN3.out)
   have hfin : w4.ownsRow w.heap.size 5 1 (.slice va3 (n1 + n2) vc3) (n1 + n2) (af (l1 ++ l2)) := by
    simpa [af] using hown4
   have HF := aa hfin
   clear hown4 hfin hgrow4
   rw [rounds_succ]
   go_wp2
   go_ret
   exact ⟨⟨va3, vc3, by simp, HF.out⟩, hB4⟩
  ·unfold maxLen; omega
  ·omega
 ·unfold maxLen; omega
 ·omega
theorem np (s : ByteArray) (W : World) : ∃ W2 c2, (convert 9 40 (.string s)).run Tryz.prog W = .ok (.slice (some ⟨W.heap.size, 0, none⟩) s.size c2) W2 /\ Below W.heap.size W W2 /\ Sl 1 ai W2 (some ⟨W.heap.size, 0, none⟩) s.size s.data.toList /\ s.size <= c2 := by
 refine ⟨_, _, Lib.run_convert_string_bytes (P := Tryz.prog) W 9 40 5 s Tryz.underlying9 Tryz.underlying40 Tryz.underlying5, ⟨rfl, rfl, rfl, ?_, fun q hq => Lib.bytesWorld_at_old W 5 s q hq⟩, ⟨by simp, .inr ⟨W.heap.size, 0, rfl, fun i x hx => ⟨[.int .u8 x.toNat], rfl, rfl, fun j v hv => ?_⟩⟩⟩, grownCap_ge W s.size 0 5⟩
 ·rw [Lib.bytesWorld_size]; omega
 ·match j, hv with
  | 0, hv =>
   simp only [List.getElem?_cons_zero, Option.some.injEq] at hv
   subst hv
   have hi : i < s.size := by have := (List.getElem?_eq_some_iff.1 hx).1; simpa using this
   have := Lib.bytesWorld_cell W 5 s i hi
   rw [show 0 + i * 1 + 0 = i by omega, this]
   simp only [List.getD_eq_getElem?_getD, hx]
   rfl
theorem ez (l : List UInt8) (h : l.length = 32) : ∃ D : Array Value, D = (af l).toArray /\ br l = .agg D /\ (Tryz.prog.info? 48).map (·.size) = some D.size /\ D.all (·.oneCell') = true /\ D.size = 32 := by
 have hs : (af l).toArray.size = 32 := by simp [af, h]
 exact ⟨_, rfl, rfl, by rw [hs]; exact ey, je l, hs⟩
theorem bf (w : World) (o : Obj) (D : Array Value) : Below w.heap.size w ((w.alloc o).setRow w.heap.size D) := below_setRow ((Below.refl _ w).alloc (Nat.le_refl _) o) (Nat.le_refl _) D
theorem oe (s : ByteArray) (a : Option Addr) (n c : Nat) (l : List UInt8) (w : World) (hs : s.size <= 1000) (hn : n <= 900000) (hi : dV w) (h : Sl 1 ai w a n l) :
  Calls Tryz.prog 52 #[.string s, .slice a n c] w fun e w' => e = .returned (br (ik s.data.toList l)) /\ Below w.heap.size w w' := by
 have H := aa h
 have HI := aa hi
 clear h hi
 go_enter Tryz.func52, Tryz.ntmps52
 go_upto_region 1 with (fail)
 obtain ⟨D0, hD0⟩ := zg w.heap.size
 obtain ⟨w1, hw1⟩ := zg (w.alloc (.cells zI 48))
 rw [<- hw1, <- hD0]
 have hd1 : ac w1 D0 48 (af (List.replicate 32 0)) := by rw [hw1, hD0]; exact ak _ rfl
 have hB1 : Below w.heap.size w w1 := by rw [hw1]; exact (Below.refl _ w).alloc (Nat.le_refl _) _
 obtain ⟨w2, c2, hcv, hB2, hs2, hc2⟩ := np s w1
 have HD1 := aa hd1
 have HD0 := aa hD0
 have HS2 := aa hs2
 have hz1 := hB1.size
 clear hw1 hD0 hd1 hs2
 go_wp2_with fail
 have hb2 := hB1.trans (hB2.mono hz1)
 refine (me _ s.size c2 s.data.toList w2 (by omega) hc2 (HI.out.below hb2) HS2.out).mono ?_
 obtain ⟨D1, hD1, hdv1, hi1, ho1, hs1⟩ := ez (cL s.data.toList) (fv _)
 rw [hdv1]
 rintro e w3 ⟨rfl, hB3⟩
 have hb3 := hb2.trans (hB3.mono hb2.size)
 have hd3 : ac w3 D0 48 (af (List.replicate 32 0)) := (HD1.out.below hB2 HD1.out.lt).below hB3 (by have := hB2.size; have := HD1.out.lt; omega)
 have HD3 := aa hd3
 have HI1 := aa hi1
 have HO1 := aa ho1
 have HS1 := aa hs1
 have HE1 := aa hD1
 clear hcv hB2 hB3 hb2 hB1 hz1 HD1 HS2 hd3 hdv1 hi1 ho1 hs1 hD1
 go_upto_region 2 with (refine wpList_store_row rfl 48 (.tmp 5) (.tmp 8) rfl w3.heap.size D1 ?e1 ?e2 48 zI (heap_alloc_new w3 _) HI1.out ?e3 HO1.out ?_; (case e1 => rfl); (case e2 => rfl); (case e3 => exact HS1.out.symm))
 obtain ⟨T, hT⟩ := zg w3.heap.size
 obtain ⟨w4, hw4⟩ := zg ((w3.alloc (.cells zI 48)).setRow w3.heap.size D1)
 rw [<- hw4, <- hT]
 have hS4 : Below w3.heap.size w3 w4 := by rw [hw4]; exact bf _ _ _
 have hr4 : ac w4 T 48 (af (cL s.data.toList)) := by rw [hw4, hT]; unfold ac; rw [<- HE1.out]; exact setRow_heap _ _ _ _ _ _ (heap_alloc_new w3 _)
 have hb4 := hb3.trans (hS4.mono hb3.size)
 have HD4 := aa (HD3.out.below hS4 HD3.out.lt)
 have HR4 := aa hr4
 have hz4 := hb4.size
 clear hw4 hS4 hr4 hT hb3 HD3 HI1 HO1 HS1 HE1
 go_wp2_with fail
 obtain ⟨S, hS⟩ := zg w4.heap.size
 have hBs : Below w4.heap.size w4 (w4.alloc (.cells #[.slice (some ⟨T, 0, none⟩) 32 32, .slice a n c] 40)) := (Below.refl _ w4).alloc (Nat.le_refl _) _
 have hsb := ak (w := w4) (.cells #[.slice (some ⟨T, 0, none⟩) 32 32, .slice a n c] 40) hS
 rw [<- hS]
 generalize w4.alloc (.cells #[.slice (some ⟨T, 0, none⟩) 32 32, .slice a n c] 40) = w5 at *
 have hb5 := hb4.trans (hBs.mono hz4)
 obtain ⟨_, g0, g1, _⟩ := Bp (Below.refl _ w5) hsb
 have hr5 : ac w5 T 48 (af (cL s.data.toList)) := HR4.out.below hBs HR4.out.lt
 have hst : Sl 1 ai w5 (some ⟨T, 0, none⟩) 32 (cL s.data.toList) := fs _ _ (fv _) hr5
 have HD5 := aa (HD4.out.below hBs HD4.out.lt)
 refine (sG S 2 (some ⟨T, 0, none⟩) 32 32 (cL s.data.toList) a n c l w5 (by omega) (by omega) hst (H.out.below ai.keeps hb5) g0 g1).mono ?_
 rintro e w6 ⟨⟨va, vc, rfl, hown⟩, hB6⟩
 obtain ⟨_, hvc, hsv⟩ := d8 (R := ai) hown (cL s.data.toList ++ l) (by simp [fv, H.out.len]) (fun i x hx => ⟨_, by simp only [af, List.getElem?_map, hx]; rfl, rfl⟩)
 have hb6 := hb5.trans (hB6.mono hb5.size)
 have HD6 := aa (HD5.out.below hB6 HD5.out.lt)
 have HSV := aa hsv
 clear hBs hsb g0 g1 hr5 hst hown hsv hB6 hb5 hb4 hz4 HD4 HD5 HR4 hS
 go_wp2_with fail
 refine (me va (32 + n) vc (cL s.data.toList ++ l) w6 (by omega) hvc (HI.out.below hb6) HSV.out).mono ?_
 obtain ⟨D2, hD2, hdv2, hi2, ho2, hs2⟩ := ez (ik s.data.toList l) (kL _ _)
 have hdv3 : br (cL (cL s.data.toList ++ l)) = .agg D2 := hdv2
 rw [hdv3]
 rintro e w7 ⟨rfl, hB7⟩
 have hb7 := hb6.trans (hB7.mono hb6.size)
 have hd7 : ac w7 D0 48 (af (List.replicate 32 0)) := HD6.out.below hB7 HD6.out.lt
 have HD7 := aa hd7
 have HI2 := aa hi2
 have HO2 := aa ho2
 have HS2 := aa hs2
 have HV2 := aa hdv2
 have hsz : Hid ((af (List.replicate 32 0)).toArray.size = 32) := by simp [Hid, af]
 clear hB7 hb6 HD6 hi2 ho2 hs2 hD2 hdv2 hdv3 hd7
 go_wp2_with (refine wpList_store_row rfl 48 (.tmp 4) (.tmp 13) rfl D0 D2 ?e1 ?e2 48 _ HD7.out HI2.out ?e3 HO2.out ?_; (case e1 => rfl); (case e2 => rfl); (case e3 => exact hsz.out.trans HS2.out.symm))
 refine bodyPost_ret (results_cell_row rfl _ _ D0 48 D2 (0, 0) _ rfl (setRow_heap _ _ _ _ _ _ HD7.out) Tryz.underlying48 rfl HI2.out) rfl ?_
 exact ⟨by rw [HV2.out], below_setRow hb7 (by rw [HD0.out]; exact Nat.le_refl _) _⟩
inductive aT where
 | int (n : Int)
 | text (s : List UInt8)
 | list (l : List aT)
def cB (u : Nat) : List UInt8 := if h : u < 128 then [UInt8.ofNat u] else UInt8.ofNat (u % 128 + 128) :: cB (u / 128)
termination_by u
decreasing_by omega
theorem gU {u : Nat} (h : u < 128) : cB u = [UInt8.ofNat u] := by rw [cB]; simp [h]
theorem jf {u : Nat} (h : ¬ u < 128) : cB u = UInt8.ofNat (u % 128 + 128) :: cB (u / 128) := by rw [cB]; simp [h]
theorem yE (k u : Nat) (h : u < 128 ^ k) (hk : 1 <= k) : (cB u).length <= k := by
 induction k generalizing u with
 | zero => omega
 | succ k ih =>
  by_cases hu : u < 128
  ·rw [gU hu]; simp
  ·rw [jf hu]
   rcases Nat.eq_zero_or_pos k with rfl | hk1
   ·simp at h; omega
   ·have := ih (u / 128) (by rw [Nat.pow_succ] at h; omega) hk1
    simp only [List.length_cons]
    omega
theorem cH {u : Nat} (h : u < 18446744073709551616) : (cB u).length <= 10 := yE 10 u (by omega) (by omega)
def eA (n : Int) : Nat := if 0 <= n then (2 * n).toNat else (-2 * n - 1).toNat
mutual
def aL : aT -> List UInt8
 | .int n => 1 :: cB (eA n)
 | .text s => 2 :: (cB s.length ++ s)
 | .list l => 3 :: (cB l.length ++ bP l)
def bP : List aT -> List UInt8
 | [] => []
 | v :: l => aL v ++ bP l
end
theorem mL (l r : List aT) : bP (l ++ r) = bP l ++ bP r := by
 induction l with
 | nil => simp [bP]
 | cons v l ih => simp [bP, ih]
theorem iC (l : List aT) (k : Nat) (v : aT) (h : l[k]? = some v) : bP (l.take (k + 1)) = bP (l.take k) ++ aL v := by
 rw [cp l k v h, mL]
 simp [bP]
theorem eP (l : List aT) (k : Nat) : (bP (l.take k)).length <= (bP l).length := by
 have := congrArg List.length (mL (l.take k) (l.drop k))
 rw [List.take_append_drop, List.length_append] at this
 omega
def aw (l : List UInt8) : ByteArray := ⟨l.toArray⟩
def VR : Nat -> World -> List Value -> aT -> Prop
 | _, _, vs, .int n => (-9223372036854775808 <= n /\ n <= 9223372036854775807) /\ ∃ a c, vs = [.int .i64 1, .int .i64 n, .string ⟨#[]⟩, .slice a 0 c]
 | _, _, vs, .text s => ∃ a c, vs = [.int .i64 2, .int .i64 0, .string (aw s), .slice a 0 c]
 | 0, _, _, .list _ => False
 | d + 1, w, vs, .list l => ∃ a n c, vs = [.int .i64 3, .int .i64 0, .string ⟨#[]⟩, .slice a n c] /\ n <= c /\ Sl 4 (VR d) w a n l
theorem VR.below : ∀ d, ju (VR d)
 | 0, w, w', vs, .int n, _, h => by simp only [VR] at h ⊢; exact h
 | 0, w, w', vs, .text s, _, h => by simp only [VR] at h ⊢; exact h
 | 0, w, w', vs, .list l, _, h => by simp only [VR] at h
 | d + 1, w, w', vs, .int n, _, h => by simp only [VR] at h ⊢; exact h
 | d + 1, w, w', vs, .text s, _, h => by simp only [VR] at h ⊢; exact h
 | d + 1, w, w', vs, .list l, hb, h => by
  simp only [VR] at h ⊢
  obtain ⟨a, n, c, h1, h2, h3⟩ := h
  exact ⟨a, n, c, h1, h2, h3.below (VR.below d) hb⟩
theorem Sl.at4 {α : Type} {R : World -> List Value -> α -> Prop} {w : World} {a : Option Addr} {n : Nat} {xs : List α} (h : Sl 4 R w a n xs) :
  n = 0 \/ ∃ b off, a = some ⟨b, off, none⟩ /\ ∀ i x, xs[i]? = some x -> ∃ v0 v1 v2 v3, R w [v0, v1, v2, v3] x /\ w.cell? ⟨b, off + i * 4, none⟩ = some v0 /\ w.cell? ⟨b, off + i * 4 + 1, none⟩ = some v1 /\ w.cell? ⟨b, off + i * 4 + 2, none⟩ = some v2 /\ w.cell? ⟨b, off + i * 4 + 3, none⟩ = some v3 := by
 rcases h.2 with h0 | ⟨b, off, ha, hc⟩
 ·exact .inl h0
 ·refine .inr ⟨b, off, ha, fun i x hx => ?_⟩
  obtain ⟨vs, hk, hr, hv⟩ := hc i x hx
  match vs, hk with
  | [v0, v1, v2, v3], _ => exact ⟨v0, v1, v2, v3, hr, by simpa using hv 0 v0 rfl, hv 1 v1 rfl, hv 2 v2 rfl, hv 3 v3 rfl⟩
structure co (B : Nat) (w w' : World) : Prop where
 below : Below B w w'
 keep : ∀ (q : Nat) (C : Array Value) (t : TypeId) (fr : Nat × Nat), w.heap[q]? = some (.cells C t fr) -> t ≠ 5 -> w'.heap[q]? = some (.cells C t fr)
theorem co.refl (B : Nat) (w : World) : co B w w := ⟨Below.refl _ _, fun _ _ _ _ h _ => h⟩
theorem co.trans {B : Nat} {a b c : World} (h : co B a b) (k : co B b c) : co B a c := ⟨h.below.trans k.below, fun q C t fr hq ht => k.keep q C t fr (h.keep q C t fr hq ht) ht⟩
theorem co.of_below {B : Nat} {w w' : World} (h : Below w.heap.size w w') (hB : B <= w.heap.size) : co B w w' := ⟨h.mono hB, fun q _C _t _fr hq _ => (h.block q (Array.getElem?_eq_some_iff.1 hq).1).trans hq⟩
theorem co.of_grown {B : Nat} {w w' : World} {v : Value} {n : Nat} {xs : List Value} (hg : w.grownBy w' v.ownBlock) (hown : w.ownsRow B 5 1 v n xs) (hB : B <= w.heap.size) : co B w w' :=
 ⟨(Below.refl B w).grown hg hB (bU hown), fun _q _C _t _fr hq ht => bx hq hg (de hown hq ht)⟩
theorem co.alloc {B : Nat} {a w : World} (h : co B a w) (hB : B <= w.heap.size) (o : Obj) : co B a (w.alloc o) := h.trans (co.of_below ((Below.refl _ w).alloc (Nat.le_refl _) o) hB)
theorem co.drew {B : Nat} {a w : World} (h : co B a w) : co B a w.drew := ⟨h.below.drew, h.keep⟩
def qW (B : Nat) (w : World) (xs : List Value) (e : Ending) (w' : World) : Prop :=
 (∃ va vc, e = .returned (.slice va xs.length vc) /\ w'.ownsRow B 5 1 (.slice va xs.length vc) xs.length xs) /\ co B w w'
theorem qX (x : Nat) (h : x < 18446744073709551616) : bits .xor .u64 (x : Int) 0 = (x : Int) := by
 have := u64_xor_nat x 0 h (by omega)
 simpa using this
theorem yF (x : Nat) (h : x < 18446744073709551616) : x ^^^ 18446744073709551615 = 18446744073709551615 - x := by
 have h1 := BitVec.toNat_not (x := BitVec.ofNat 64 x)
 rw [<- BitVec.xor_allOnes, BitVec.toNat_xor, BitVec.toNat_ofNat, BitVec.toNat_allOnes, Nat.mod_eq_of_lt (by simpa using h)] at h1
 simpa using h1
theorem qY (x : Nat) (h : x < 18446744073709551616) : bits .xor .u64 (x : Int) 18446744073709551615 = ((18446744073709551615 - x : Nat) : Int) := by
 have := u64_xor_nat x 18446744073709551615 h (by omega)
 rw [yF x h] at this
 exact this
theorem qZ (n : Int) (w : World) (h1 : -9223372036854775808 <= n) (h2 : n <= 9223372036854775807) :
  Calls Tryz.prog 123 #[.int .i64 n] w fun e w' => e = .returned (.int .u64 (eA n)) /\ w = w' := by
 by_cases h0 : 0 <= n
 ·obtain ⟨m, rfl⟩ := Int.eq_ofNat_of_zero_le h0
  have e1 : (m : Int) / 9223372036854775808 = 0 := by omega
  have e2 : IntKind.u64.wrap (m : Int) = (m : Int) := by rw [IntKind.wrap_u64]; omega
  have e3 : IntKind.u64.wrap 0 = 0 := by decide
  have e4 := qX (2 * m) (by omega)
  have e5 : eA (m : Int) = 2 * m := by unfold eA; rw [if_pos h0]; omega
  have E5 := aa e5
  clear e5
  go_enter Tryz.func123, Tryz.ntmps123
  go_wp2
  go_ret
  refine ⟨bY ?_, rfl⟩
  rw [show (m : Int) * 2 = ((2 * m : Nat) : Int) by omega, e4, E5.out]
 ·obtain ⟨m, hm⟩ : ∃ m : Nat, n = -((m : Int) + 1) := ⟨(-n - 1).toNat, by omega⟩
  have e1 : n / 9223372036854775808 = -1 := by omega
  have e2 : IntKind.u64.wrap n = n + 18446744073709551616 := by rw [IntKind.wrap_u64]; omega
  have e3 : IntKind.u64.wrap (-1) = 18446744073709551615 := by decide
  have e5 : eA n = 2 * m + 1 := by unfold eA; rw [if_neg h0]; omega
  have e6 : (n + 18446744073709551616) * 2 % 18446744073709551616 = ((18446744073709551615 - (2 * m + 1) : Nat) : Int) := by omega
  have e4 := qY (18446744073709551615 - (2 * m + 1)) (by omega)
  have hmb : m < 9223372036854775808 := by omega
  have E5 := aa e5
  have E4 := aa e4
  have E6 := aa e6
  clear hm e5 e4 e6
  go_enter Tryz.func123, Tryz.ntmps123
  go_wp2
  go_ret
  refine ⟨bY ?_, rfl⟩
  rw [show IntKind.u64.wrap ((n + 18446744073709551616) * 2) = ((18446744073709551615 - (2 * m + 1) : Nat) : Int) by rw [IntKind.wrap_u64]; exact E6.out]
  rw [E4.out, E5.out]
  omega
theorem eX {w : World} (x : Value) (t : TypeId) : ∀ ad : Addr, (some ⟨w.heap.size, 0, none⟩ : Option Addr) = some ad -> ∀ j u, [x][j]? = some u -> (w.alloc (.cells #[x] t)).cell? (ad.add j) = some u := by
 intro ad had j u hu
 cases had
 rw [Addr.add_lit]
 match j, hu with
 | 0, hu =>
  simp only [List.getElem?_cons_zero, Option.some.injEq] at hu
  subst hu
  exact dz #[x] t rfl 0
theorem it (B : Nat) (a : Option Addr) (n c u : Nat) (xs : List Value) (w : World) (hB : B <= w.heap.size) (hn : n <= 1000000) (hu : u < 18446744073709551616) (hown : w.ownsRow B 5 1 (.slice a n c) n xs) :
  Calls Tryz.prog 122 #[.slice a n c, .int .u64 u] w (qW B w (xs ++ af (cB u))) := by
 obtain ⟨i0, hi0, hz0, hz1, hz2⟩ := eO
 have hlen := cH hu
 have hxl : xs.length = n := by simpa using hown.1
 have HOWN := aa hown
 have HXL := aa hxl
 clear hown hxl
 go_enter Tryz.func122, Tryz.ntmps122
 go_wp2
 go_loopw [0, 1] (fun s0 s1 wr => ∃ (d : List UInt8) (v : Nat) (A : Option Addr) (C : Nat), s0 = .slice A (n + d.length) C /\ s1 = .int .u64 v /\ v <= u /\ cB u = d ++ cB v /\ wr.ownsRow B 5 1 (.slice A (n + d.length) C) (n + d.length) (xs ++ af d) /\ co B w wr) (fun _ s1 _ => (intOf s1).toNat)
 case atStart => exact ⟨[], u, a, c, rfl, rfl, Nat.le_refl _, rfl, by simpa [af] using HOWN.out, co.refl _ _⟩
 case round =>
  clear HOWN
  obtain ⟨d, v, A, C, rfl, rfl, hv, hd, hown, hk⟩ := hrel
  obtain ⟨m, hm⟩ := zg (n + d.length)
  rw [<- hm] at hown ⊢
  have hml : m <= n + 10 := by have := congrArg List.length hd; rw [List.length_append] at this; omega
  have hz := Nat.le_trans hB hk.below.size
  have HM := aa hm
  have HD := aa hd
  have HOWN := aa hown
  have HK := aa hk
  clear hm hd hown hk
  by_cases hge : 128 <= v
  ·have k1 : (128 : Int) <= (v : Int) := by omega
   have w1 : IntKind.u8.wrap (v : Int) = (v : Int) % 256 := IntKind.wrap_u8' _
   have hb : UInt8.ofNat (v % 128 + 128) = UInt8.ofNat (v % 128 + 128) := rfl
   have w2 : bits .or .u8 ((v : Int) % 256) 128 = ((UInt8.ofNat (v % 128 + 128)).toNat : Int) := by
    have q : (v : Int) % 256 = ((v % 256 : Nat) : Int) := by omega
    have z := u8_or_nat (v % 256) 128 (by omega) (by omega)
    rw [q]
    refine z.trans ?_
    rw [UInt8.toNat_ofNat']
    have : v % 256 ||| 128 = v % 128 + 128 := by
     have h1 : ∀ q : Fin 256, q.val ||| 128 = q.val % 128 + 128 := by decide +kernel
     have := h1 ⟨v % 256, by omega⟩
     simp only at this
     omega
    rw [this]
    congr 1
    omega
   have hnl := jf (show ¬ v < 128 by omega)
   obtain ⟨bt, hbt⟩ := zg (UInt8.ofNat (v % 128 + 128))
   rw [<- hbt] at w2 hnl
   have HNL := aa hnl
   clear hb hbt hnl
   go_wp2_with (at_builtin; refine aD rfl (.tmp 9) (.tmp 13) 40 rfl B 5 i0 (.int .u8 0) 1 1 Tryz.underlying40 hi0 hz0 hz1 hz2 rfl (by decide) (.slice A m C) m (xs ++ af d) rfl (HOWN.out.alloc _) (some ⟨wr.heap.size, 0, none⟩) 1 1 [.int .u8 bt.toNat] rfl rfl ?p0 (eX _ _) ?p2 ?p3 ?p4 ?p5 ?_; rotate_right; intro va vc w3 hown3 hgrow3)
   case p0 => intro h; cases h
   case p2 => intro q hq; simp only [List.mem_singleton] at hq; subst hq; rfl
   case p3 => unfold maxLen; omega
   case p4 => omega
   case p5 => simp; omega
   have hk3 : co B w w3 := (HK.out.alloc hz _).trans (co.of_grown hgrow3 (HOWN.out.alloc _) (by simp; omega))
   go_roundw
   case rel =>
    refine ⟨d ++ [bt], v / 128, va, vc, by rw [List.length_append, List.length_singleton, <- Nat.add_assoc, <- HM.out], by first | rfl | go_num, Nat.le_trans (Nat.div_le_self _ _) hv, by rw [HD.out, HNL.out]; simp, ?_, hk3⟩
    rw [List.length_append, List.length_singleton, <- Nat.add_assoc, <- HM.out]
    simpa [af] using hown3
   case measure => simp [intOf]; omega
  ·have k1 : (v : Int) < 128 := by omega
   have w1 : IntKind.u8.wrap (v : Int) = ((UInt8.ofNat v).toNat : Int) := by
    rw [IntKind.wrap_u8', UInt8.toNat_ofNat']; omega
   have hnl := gU (show v < 128 by omega)
   obtain ⟨bt, hbt⟩ := zg (UInt8.ofNat v)
   rw [<- hbt] at w1 hnl
   have HNL := aa hnl
   clear hbt hnl
   go_wp2_with (at_builtin; refine aD rfl (.tmp 15) (.tmp 18) 40 rfl B 5 i0 (.int .u8 0) 1 1 Tryz.underlying40 hi0 hz0 hz1 hz2 rfl (by decide) (.slice A m C) m (xs ++ af d) rfl (HOWN.out.alloc _) (some ⟨wr.heap.size, 0, none⟩) 1 1 [.int .u8 bt.toNat] rfl rfl ?p0 (eX _ _) ?p2 ?p3 ?p4 ?p5 ?_; rotate_right; intro va vc w3 hown3 hgrow3)
   case p0 => intro h; cases h
   case p2 => intro q hq; simp only [List.mem_singleton] at hq; subst hq; rfl
   case p3 => unfold maxLen; omega
   case p4 => omega
   case p5 => simp; omega
   have hk3 : co B w w3 := (HK.out.alloc hz _).trans (co.of_grown hgrow3 (HOWN.out.alloc _) (by simp; omega))
   go_ret
   have hl : (xs ++ af (cB u)).length = m + 1 := by
    rw [HD.out, HNL.out, HM.out]
    simp [af, HXL.out]
    omega
   refine ⟨⟨va, vc, by rw [hl]; rfl, ?_⟩, hk3⟩
   rw [hl, HD.out, HNL.out]
   simpa [af] using hown3
theorem q9 (B : Nat) (a : Option Addr) (n c : Nat) (xs : List Value) (k : Int) (la : Option Addr) (lc : Nat) (w : World) (hB : B <= w.heap.size) (hn : n <= 900000) (h1 : -9223372036854775808 <= k) (h2 : k <= 9223372036854775807) (hown : w.ownsRow B 5 1 (.slice a n c) n xs) :
  Calls Tryz.prog 121 #[.slice a n c, .agg #[.int .i64 1, .int .i64 k, .string ⟨#[]⟩, .slice la 0 lc]] w (qW B w (xs ++ af (aL (.int k)))) := by
 obtain ⟨i0, hi0, hz0, hz1, hz2⟩ := eO
 have HOWN := aa hown
 have hus : eA k < 18446744073709551616 := by unfold eA; split <;> omega
 clear hown
 go_enter Tryz.func121, Tryz.ntmps121
 go_upto_region 1 with (fail)
 obtain ⟨X, hX⟩ := zg w.heap.size
 obtain ⟨w1, hw1⟩ := zg (w.alloc (.cells #[.int .i64 1, .int .i64 k, .string ⟨#[]⟩, .slice la 0 lc] 88))
 rw [<- hw1, <- hX]
 have hx1 := ak (w := w) (.cells #[.int .i64 1, .int .i64 k, .string ⟨#[]⟩, .slice la 0 lc] 88) hX
 rw [<- hw1] at hx1
 have hk1 : co B w w1 := by rw [hw1]; exact (co.refl _ _).alloc hB _
 have ho1 : w1.ownsRow B 5 1 (.slice a n c) n xs := by rw [hw1]; exact HOWN.out.alloc _
 have hx2 : (World.drew w1).heap[X]? = some (.cells #[.int .i64 1, .int .i64 k, .string ⟨#[]⟩, .slice la 0 lc] 88 (0, 0)) := hx1
 have hk2 := hk1.drew
 have ho2 : (World.drew w1).ownsRow B 5 1 (.slice a n c) n xs := ho1
 clear hx1 hk1 ho1 hw1 hX
 refine bZ (fun W => W.heap[X]? = some (.cells #[.int .i64 1, .int .i64 k, .string ⟨#[]⟩, .slice la 0 lc] 88 (0, 0))) 7 (by kernel_rfl) ?_
 change bT _ _ _ _ _ _ _ _ _ (World.drew w1)
 generalize World.drew w1 = w2 at *
 refine aM 0 (.slice a n c) rfl (by kernel_rfl) (by kernel_rfl) (by kernel_rfl) (by kernel_rfl) (fun _ _ _ h => h) rfl (fun W (h : W.heap[X]? = some (.cells #[.int .i64 1, .int .i64 k, .string ⟨#[]⟩, .slice la 0 lc] 88 (0, 0))) => ?y0) hx2 ?_
 case y0 => (obtain ⟨_, f0, f1, f2, f3, _, _⟩ := aF (Below.refl _ W) h; go_simp; try rfl)
 try simp only [Act.put, zA]
 refine aM 3 (.pointer (some ⟨X, 1, none⟩)) rfl (by kernel_rfl) (by kernel_rfl) (by kernel_rfl) (by kernel_rfl) (fun _ _ _ h => h) rfl (fun W (h : W.heap[X]? = some (.cells #[.int .i64 1, .int .i64 k, .string ⟨#[]⟩, .slice la 0 lc] 88 (0, 0))) => ?y3) hx2 ?_
 case y3 => (obtain ⟨_, f0, f1, f2, f3, _, _⟩ := aF (Below.refl _ W) h; go_simp; try rfl)
 try simp only [Act.put]
 refine aM 4 (.int .i64 k) rfl (by kernel_rfl) (by kernel_rfl) (by kernel_rfl) (by kernel_rfl) (fun _ _ _ h => h) rfl (fun W (h : W.heap[X]? = some (.cells #[.int .i64 1, .int .i64 k, .string ⟨#[]⟩, .slice la 0 lc] 88 (0, 0))) => ?y4) hx2 ?_
 case y4 => (obtain ⟨_, f0, f1, f2, f3, _, _⟩ := aF (Below.refl _ W) h; go_simp; try rfl)
 try simp only [Act.put]
 have hz2' := Nat.le_trans hB hk2.below.size
 refine aC 1 (by kernel_rfl) rfl rfl ?_
 unfold Oper.wp
 go_simp
 refine ⟨aB _ hx2, ?_⟩
 try simp only [Act.put, zA]
 refine aC 2 (by kernel_rfl) rfl rfl ?_
 refine dA (.tmp 5) (.tmp 6) 40 rfl B 5 i0 (.int .u8 0) 1 1 Tryz.underlying40 hi0 hz0 hz1 hz2 rfl (by decide) (.slice a n c) n xs rfl (ho2.alloc _) (some ⟨w2.heap.size, 0, none⟩) 1 1 [.int .u8 1] rfl rfl (fun h => by cases h) (eX _ _) (by intro q hq; simp only [List.mem_singleton] at hq; subst hq; rfl) (by unfold maxLen; omega) (by omega) (by simp; omega) ?_
 intro va vc w3 hown3 hgrow3
 have hk3 : co B w w3 := (hk2.alloc hz2' _).trans (co.of_grown hgrow3 (ho2.alloc _) (by simp; omega))
 have hx3 : w3.heap[X]? = some (.cells #[.int .i64 1, .int .i64 k, .string ⟨#[]⟩, .slice la 0 lc] 88 (0, 0)) := (co.of_grown hgrow3 (ho2.alloc _) (by simp; omega)).keep _ _ _ _ (aB _ hx2) (by decide)
 refine ⟨.inr hx3, ?_⟩
 try simp only [Act.put, zA]
 refine aC 5 (by kernel_rfl) rfl rfl ?_
 unfold Oper.wp
 go_simp
 refine (qZ k _ h1 h2).mono ?_
 rintro e w4 ⟨rfl, rfl⟩
 refine ⟨hx3, ?_⟩
 try simp only [Act.put, zA]
 refine aC 6 (by kernel_rfl) rfl rfl ?_
 unfold Oper.wp
 go_simp
 have hz3 := Nat.le_trans hB hk3.below.size
 have hnum := it B va (n + 1) vc (eA k) (xs ++ [.int .u8 1]) w3 hz3 (by omega) hus hown3
 have hL : xs ++ [.int .u8 1] ++ af (cB (eA k)) = xs ++ af (aL (.int k)) := by simp [aL, af]
 rw [hL] at hnum
 generalize xs ++ af (aL (.int k)) = L at *
 have HL := aa hL
 clear hL
 refine hnum.mono ?_
 rintro e w5 ⟨⟨vb, vd, rfl, hown5⟩, hk5⟩
 have hx5 := hk5.keep _ _ _ _ hx3 (by decide)
 refine ⟨hx5, ?_⟩
 try simp only [Act.put, zA]
 refine aC 7 (by kernel_rfl) rfl rfl ?_
 unfold Oper.wp
 go_simp
 refine c7 (by kernel_rfl) ?_
 go_wp2
 go_ret
 exact ⟨⟨vb, vd, rfl, hown5⟩, hk3.trans hk5⟩
theorem fA (s : List UInt8) : (aw s).size = s.length := rfl
theorem gE (s : List UInt8) : Lib.strCells (aw s) = af s := by simp [Lib.strCells, aw, af]
theorem fY {P : Program} {w : World} {o : Oper} {a : Act} {K : Act -> World -> Prop} {Q : Exit -> Act -> World -> Prop} (sl x : Operand) (t u : TypeId)
  (ho : o.op = .call { callee := .builtin .append, args := #[sl, x], argTypes := #[t, u] })
  (base : Nat) (e : TypeId) (i : TypeInfo) (ht : P.underlying t = some (.slice e)) (hu : P.underlying u = some .string) (hi : P.info? e = some i) (hz : i.zero = some (.int .u8 0))
  (hsize : i.size = 1) (hby : i.bytes = 1)
  (v : Value) (n : Nat) (xs : List Value) (hs : a.eval sl = v) (hown : w.ownsRow base e 1 v n xs) (s : ByteArray) (hx : a.eval x = .string s)
  (h63 : n + s.size <= maxLen) (hbytes : n + s.size <= 140737488355328) (hbase : base <= w.heap.size)
  (h : ∀ va vc w', w'.ownsRow base e 1 (.slice va (n + s.size) vc) (n + s.size) (xs ++ Lib.strCells s) -> w.grownBy w' v.ownBlock -> K (a.put o.dst (.slice va (n + s.size) vc)) w') : o.wp P a w K Q := by
 obtain ⟨v', w', hr, h2, h3, h4⟩ := Lib.run_append_own_string (P := P) w base t u o.type e i ht hu hi hz hsize hby v n xs hown s h63 hbytes hbase
 obtain ⟨va, vc, rfl⟩ := ft h2
 unfold Oper.wp execOp
 simp only [ho, resolve, invoke, builtin, Sem.run_bind, Sem.run_pure, Result.andThen_ok, List.map_toArray, List.map_cons, List.map_nil, hs, hx, hr]
 exact h va vc w' h2 h3
theorem pK (B : Nat) (a : Option Addr) (n c : Nat) (xs : List Value) (s : List UInt8) (la : Option Addr) (lc : Nat) (w : World) (hB : B <= w.heap.size) (hn : n + s.length <= 900000) (hown : w.ownsRow B 5 1 (.slice a n c) n xs) :
  Calls Tryz.prog 124 #[.slice a n c, .agg #[.int .i64 2, .int .i64 0, .string (aw s), .slice la 0 lc]] w (qW B w (xs ++ af (aL (.text s)))) := by
 obtain ⟨i0, hi0, hz0, hz1, hz2⟩ := eO
 have HOWN := aa hown
 have hxl : xs.length = n := by simpa using hown.1
 have HXL := aa hxl
 have hsz := fA s
 have hnl := cH (show s.length < 18446744073709551616 by omega)
 have hcv : IntKind.u64.wrap (s.length : Int) = (s.length : Int) := by rw [IntKind.wrap_u64]; omega
 have HCV := aa hcv
 clear hown hxl hcv
 go_enter Tryz.func124, Tryz.ntmps124
 go_upto_region 1 with (fail)
 obtain ⟨X, hX⟩ := zg w.heap.size
 obtain ⟨w1, hw1⟩ := zg (w.alloc (.cells #[.int .i64 2, .int .i64 0, .string (aw s), .slice la 0 lc] 88))
 rw [<- hw1, <- hX]
 have hx1 := ak (w := w) (.cells #[.int .i64 2, .int .i64 0, .string (aw s), .slice la 0 lc] 88) hX
 rw [<- hw1] at hx1
 have hk1 : co B w w1 := by rw [hw1]; exact (co.refl _ _).alloc hB _
 have ho1 : w1.ownsRow B 5 1 (.slice a n c) n xs := by rw [hw1]; exact HOWN.out.alloc _
 have hx2 : (World.drew w1).heap[X]? = some (.cells #[.int .i64 2, .int .i64 0, .string (aw s), .slice la 0 lc] 88 (0, 0)) := hx1
 have hk2 := hk1.drew
 have ho2 : (World.drew w1).ownsRow B 5 1 (.slice a n c) n xs := ho1
 clear hx1 hk1 ho1 hw1 hX
 refine bZ (fun W => W.heap[X]? = some (.cells #[.int .i64 2, .int .i64 0, .string (aw s), .slice la 0 lc] 88 (0, 0))) 11 (by kernel_rfl) ?_
 change bT _ _ _ _ _ _ _ _ _ (World.drew w1)
 generalize World.drew w1 = w2 at *
 refine aM 0 (.slice a n c) rfl (by kernel_rfl) (by kernel_rfl) (by kernel_rfl) (by kernel_rfl) (fun _ _ _ h => h) rfl (fun W (h : W.heap[X]? = some (.cells #[.int .i64 2, .int .i64 0, .string (aw s), .slice la 0 lc] 88 (0, 0))) => ?y0) hx2 ?_
 case y0 => (obtain ⟨_, f0, f1, f2, f3, _, _⟩ := aF (Below.refl _ W) h; go_simp; try rfl)
 try simp only [Act.put, zA]
 refine aM 3 (.pointer (some ⟨X, 2, none⟩)) rfl (by kernel_rfl) (by kernel_rfl) (by kernel_rfl) (by kernel_rfl) (fun _ _ _ h => h) rfl (fun W (h : W.heap[X]? = some (.cells #[.int .i64 2, .int .i64 0, .string (aw s), .slice la 0 lc] 88 (0, 0))) => ?y3) hx2 ?_
 case y3 => (obtain ⟨_, f0, f1, f2, f3, _, _⟩ := aF (Below.refl _ W) h; go_simp; try rfl)
 try simp only [Act.put]
 refine aM 4 (.string (aw s)) rfl (by kernel_rfl) (by kernel_rfl) (by kernel_rfl) (by kernel_rfl) (fun _ _ _ h => h) rfl (fun W (h : W.heap[X]? = some (.cells #[.int .i64 2, .int .i64 0, .string (aw s), .slice la 0 lc] 88 (0, 0))) => ?y4) hx2 ?_
 case y4 => (obtain ⟨_, f0, f1, f2, f3, _, _⟩ := aF (Below.refl _ W) h; go_simp; try rfl)
 try simp only [Act.put]
 refine aM 5 (.int .i64 (s.length : Int)) rfl (by kernel_rfl) (by kernel_rfl) (by kernel_rfl) (by kernel_rfl) (fun _ _ _ h => h) rfl (fun W (h : W.heap[X]? = some (.cells #[.int .i64 2, .int .i64 0, .string (aw s), .slice la 0 lc] 88 (0, 0))) => ?y5) hx2 ?_
 case y5 => (obtain ⟨_, f0, f1, f2, f3, _, _⟩ := aF (Below.refl _ W) h; go_simp; try rfl)
 try simp only [Act.put]
 refine aM 6 (.int .u64 (s.length : Int)) rfl (by kernel_rfl) (by kernel_rfl) (by kernel_rfl) (by kernel_rfl) (fun _ _ _ h => h) rfl (fun W (h : W.heap[X]? = some (.cells #[.int .i64 2, .int .i64 0, .string (aw s), .slice la 0 lc] 88 (0, 0))) => ?y6) hx2 ?_
 case y6 => (obtain ⟨_, f0, f1, f2, f3, _, _⟩ := aF (Below.refl _ W) h; have hcv := HCV.out; go_simp; try rfl)
 try simp only [Act.put]
 refine aM 8 (.pointer (some ⟨X, 2, none⟩)) rfl (by kernel_rfl) (by kernel_rfl) (by kernel_rfl) (by kernel_rfl) (fun _ _ _ h => h) rfl (fun W (h : W.heap[X]? = some (.cells #[.int .i64 2, .int .i64 0, .string (aw s), .slice la 0 lc] 88 (0, 0))) => ?y8) hx2 ?_
 case y8 => (obtain ⟨_, f0, f1, f2, f3, _, _⟩ := aF (Below.refl _ W) h; go_simp; try rfl)
 try simp only [Act.put]
 refine aM 9 (.string (aw s)) rfl (by kernel_rfl) (by kernel_rfl) (by kernel_rfl) (by kernel_rfl) (fun _ _ _ h => h) rfl (fun W (h : W.heap[X]? = some (.cells #[.int .i64 2, .int .i64 0, .string (aw s), .slice la 0 lc] 88 (0, 0))) => ?y9) hx2 ?_
 case y9 => (obtain ⟨_, f0, f1, f2, f3, _, _⟩ := aF (Below.refl _ W) h; go_simp; try rfl)
 try simp only [Act.put]
 have hz2' := Nat.le_trans hB hk2.below.size
 refine aC 1 (by kernel_rfl) rfl rfl ?_
 unfold Oper.wp
 go_simp
 refine ⟨aB _ hx2, ?_⟩
 try simp only [Act.put, zA]
 refine aC 2 (by kernel_rfl) rfl rfl ?_
 refine dA (.tmp 5) (.tmp 6) 40 rfl B 5 i0 (.int .u8 0) 1 1 Tryz.underlying40 hi0 hz0 hz1 hz2 rfl (by decide) (.slice a n c) n xs rfl (ho2.alloc _) (some ⟨w2.heap.size, 0, none⟩) 1 1 [.int .u8 2] rfl rfl (fun h => by cases h) (eX _ _) (by intro q hq; simp only [List.mem_singleton] at hq; subst hq; rfl) (by unfold maxLen; omega) (by omega) (by simp; omega) ?_
 intro va vc w3 hown3 hgrow3
 have hk3 : co B w w3 := (hk2.alloc hz2' _).trans (co.of_grown hgrow3 (ho2.alloc _) (by simp; omega))
 have hx3 : w3.heap[X]? = some (.cells #[.int .i64 2, .int .i64 0, .string (aw s), .slice la 0 lc] 88 (0, 0)) := (co.of_grown hgrow3 (ho2.alloc _) (by simp; omega)).keep _ _ _ _ (aB _ hx2) (by decide)
 refine ⟨.inr hx3, ?_⟩
 try simp only [Act.put, zA]
 refine aC 7 (by kernel_rfl) rfl rfl ?_
 unfold Oper.wp
 go_simp
 have hz3 := Nat.le_trans hB hk3.below.size
 have hnum := it B va (n + 1) vc s.length (xs ++ [.int .u8 2]) w3 hz3 (by omega) (by omega) hown3
 obtain ⟨L1, hL1⟩ := zg (xs ++ [.int .u8 2] ++ af (cB s.length))
 rw [<- hL1] at hnum
 have hl1 : L1.length <= n + 11 := by rw [hL1]; simp [af]; have := HXL.out; omega
 have HL1 := aa hL1
 clear hL1
 refine hnum.mono ?_
 rintro e w5 ⟨⟨vb, vd, rfl, hown5⟩, hk5⟩
 have hx5 := hk5.keep _ _ _ _ hx3 (by decide)
 have hk6 := hk3.trans hk5
 refine ⟨hx5, ?_⟩
 try simp only [Act.put, zA]
 refine aC 10 (by kernel_rfl) rfl rfl ?_
 refine fY (.tmp 12) (.tmp 14) 40 9 rfl B 5 i0 Tryz.underlying40 Tryz.underlying9 hi0 hz0 hz1 hz2 (.slice vb L1.length vd) L1.length L1 rfl hown5 (aw s) rfl (by rw [fA]; unfold maxLen; omega) (by rw [fA]; omega) (Nat.le_trans hB hk6.below.size) ?_
 intro vg vh w7 hown7 hgrow7
 have hk7 := co.of_grown hgrow7 hown5 (Nat.le_trans hB hk6.below.size)
 have hx7 := hk7.keep _ _ _ _ hx5 (by decide)
 have hL : L1 ++ Lib.strCells (aw s) = xs ++ af (aL (.text s)) := by rw [gE, HL1.out]; simp [aL, af]
 have hLn : L1.length + (aw s).size = (xs ++ af (aL (.text s))).length := by rw [<- hL, gE]; simp [af, fA]
 rw [hL, hLn] at hown7
 rw [hLn]
 generalize xs ++ af (aL (.text s)) = L at *
 clear hL hLn
 refine ⟨.inr hx7, ?_⟩
 try simp only [Act.put, zA]
 refine aC 11 (by kernel_rfl) rfl rfl ?_
 unfold Oper.wp
 go_simp
 refine c7 (by kernel_rfl) ?_
 go_wp2
 go_ret
 exact ⟨⟨vg, vh, rfl, hown7⟩, hk6.trans hk7⟩
theorem VR.int_inv {d : Nat} {w : World} {vs : List Value} {n : Int} (h : VR d w vs (.int n)) : (-9223372036854775808 <= n /\ n <= 9223372036854775807) /\ ∃ a c, vs = [.int .i64 1, .int .i64 n, .string ⟨#[]⟩, .slice a 0 c] := by
 cases d <;> exact h
theorem VR.text_inv {d : Nat} {w : World} {vs : List Value} {s : List UInt8} (h : VR d w vs (.text s)) : ∃ a c, vs = [.int .i64 2, .int .i64 0, .string (aw s), .slice a 0 c] := by
 cases d <;> exact h
theorem VR.list_inv {d : Nat} {w : World} {vs : List Value} {l : List aT} (h : VR d w vs (.list l)) : ∃ e, d = e + 1 /\ ∃ a n c, vs = [.int .i64 3, .int .i64 0, .string ⟨#[]⟩, .slice a n c] /\ n <= c /\ Sl 4 (VR e) w a n l := by
 cases d with
 | zero => exact absurd h id
 | succ e => exact ⟨e, rfl, h⟩
def bi : aT -> Nat
 | .int _ => 1
 | .text _ => 2
 | .list _ => 3
theorem VR.four {d : Nat} {w : World} {v0 v1 v2 v3 : Value} {x : aT} (h : VR d w [v0, v1, v2, v3] x) : ∃ (m : Int) (s : ByteArray) (ea : Option Addr) (en ec : Nat), v0 = .int .i64 (bi x) /\ v1 = .int .i64 m /\ v2 = .string s /\ v3 = .slice ea en ec := by
 cases x with
 | int n => obtain ⟨_, a, c, h⟩ := h.int_inv; cases h; exact ⟨_, _, _, _, _, rfl, rfl, rfl, rfl⟩
 | text s => obtain ⟨a, c, h⟩ := h.text_inv; cases h; exact ⟨_, _, _, _, _, rfl, rfl, rfl, rfl⟩
 | list l => obtain ⟨_, _, a, n, c, h, _⟩ := h.list_inv; cases h; exact ⟨_, _, _, _, _, rfl, rfl, rfl, rfl⟩
theorem rb (x : aT) : bi x < 4 := by cases x <;> simp [bi]
def Cq (Vb : Nat) : Array Value := #[.nilFunc, .func (.func 121) #[] #[], .func (.func 124) #[] #[], .func (.func 125) #[] #[.pointer (some ⟨Vb, 0, none⟩)]]
theorem qw (w : World) :
  Calls Tryz.prog 96 #[] w fun e w' => e = .returned (.pointer (some ⟨w.heap.size, 0, none⟩)) /\ w' = (w.alloc (.cells (Cq (w.heap.size + 1)) 156)).alloc (.cells #[.pointer (some ⟨w.heap.size, 0, none⟩)] 126) := by
 go_enter Tryz.func96, Tryz.ntmps96
 go_wp2
 go_ret
 exact ⟨rfl, rfl⟩
structure lG (w : World) (Vb Wb : Nat) : Prop where
 var : w.heap[Vb]? = some (.cells #[.pointer (some ⟨Wb, 0, none⟩)] 126 (0, 0))
 wr : w.heap[Wb]? = some (.cells (Cq Vb) 156 (0, 0))
theorem lG.kept {B : Nat} {w w' : World} {Vb Wb : Nat} (h : lG w Vb Wb) (hk : co B w w') : lG w' Vb Wb := ⟨hk.keep _ _ _ _ h.var (by decide), hk.keep _ _ _ _ h.wr (by decide)⟩
def wf : aT -> FuncId
 | .int _ => 121
 | .text _ => 124
 | .list _ => 125
def yG (Vb : Nat) : aT -> Array Value
 | .list _ => #[.pointer (some ⟨Vb, 0, none⟩)]
 | _ => #[]
theorem lG.cell {w : World} {Vb Wb : Nat} (h : lG w Vb Wb) (x : aT) : w.cell? ⟨Wb, bi x, none⟩ = some (.func (.func (wf x)) #[] (yG Vb x)) := by
 rw [cell_of_row w Wb _ _ _ _ h.wr]
 cases x <;> rfl
def Cj (Vb : Nat) (b v : Value) : aT -> Array Value
 | .list _ => #[b, v, .pointer (some ⟨Vb, 0, none⟩)]
 | _ => #[b, v]
def vZ (w0 : World) (d : Nat) : Prop := ∀ (v : aT) (vs : List Value), VR d w0 vs v -> ∀ (Vb Wb : Nat) (a : Option Addr) (n c : Nat) (xs : List Value) (w : World), Below w0.heap.size w0 w -> lG w Vb Wb -> n + (aL v).length <= 900000 ->
 w.ownsRow w0.heap.size 5 1 (.slice a n c) n xs -> Calls Tryz.prog (wf v) (Cj Vb (.slice a n c) (.agg vs.toArray) v) w (qW w0.heap.size w (xs ++ af (aL v)))
theorem wa (w0 : World) (d : Nat) (IH : vZ w0 d) (l : List aT) (la : Option Addr) (ln lc : Nat) (hsl : Sl 4 (VR d) w0 la ln l) (Vb Wb : Nat) (a : Option Addr) (n c : Nat) (xs : List Value) (w : World) (hB0 : Below w0.heap.size w0 w) (hw : lG w Vb Wb) (hn : n + (aL (.list l)).length <= 900000) (hown : w.ownsRow w0.heap.size 5 1 (.slice a n c) n xs) :
  Calls Tryz.prog 125 #[.slice a n c, .agg #[.int .i64 3, .int .i64 0, .string ⟨#[]⟩, .slice la ln lc], .pointer (some ⟨Vb, 0, none⟩)] w (qW w0.heap.size w (xs ++ af (aL (.list l)))) := by
 obtain ⟨i0, hi0, hz0, hz1, hz2⟩ := eO
 obtain ⟨B, hBe⟩ := zg w0.heap.size
 have hB : B <= w.heap.size := by rw [hBe]; exact hB0.size
 have hxl : xs.length = n := by simpa using hown.1
 rw [<- hBe] at hown hB0 ⊢
 have HOWN := aa hown
 have HXL := aa hxl
 have HIH := aa IH
 have HSL := aa hsl
 have HW := aa hw
 have HBE := aa hBe
 have hll : l.length = ln := hsl.len
 have HLL := aa hll
 have henc : (aL (.list l)).length = 1 + (cB ln).length + (bP l).length := by simp [aL, hll]; omega
 have hln : ln <= 900000 := by
  have : ∀ l : List aT, l.length <= (bP l).length := by
   intro l
   induction l with
   | nil => simp [bP]
   | cons v l ih =>
    have : 1 <= (aL v).length := by cases v <;> simp [aL]
    simp only [bP, List.length_cons, List.length_append]
    omega
  have := this l
  omega
 have hnl := cH (show ln < 18446744073709551616 by omega)
 have hcv : IntKind.u64.wrap (ln : Int) = (ln : Int) := by rw [IntKind.wrap_u64]; omega
 have HCV := aa hcv
 have HENC := aa henc
 clear hown hxl IH hsl hw hBe hll hcv henc
 go_enter Tryz.func125, Tryz.ntmps125
 go_upto_region 1 with (fail)
 obtain ⟨X, hX⟩ := zg w.heap.size
 obtain ⟨w1, hw1⟩ := zg (w.alloc (.cells #[.int .i64 3, .int .i64 0, .string ⟨#[]⟩, .slice la ln lc] 88))
 rw [<- hw1, <- hX]
 have hx1 := ak (w := w) (.cells #[.int .i64 3, .int .i64 0, .string ⟨#[]⟩, .slice la ln lc] 88) hX
 rw [<- hw1] at hx1
 have hk1 : co B w w1 := by rw [hw1]; exact (co.refl _ _).alloc hB _
 have ho1 : w1.ownsRow B 5 1 (.slice a n c) n xs := by rw [hw1]; exact HOWN.out.alloc _
 have hx2 : (World.drew w1).heap[X]? = some (.cells #[.int .i64 3, .int .i64 0, .string ⟨#[]⟩, .slice la ln lc] 88 (0, 0)) := hx1
 have hk2 := hk1.drew
 have ho2 : (World.drew w1).ownsRow B 5 1 (.slice a n c) n xs := ho1
 clear hx1 hk1 ho1 hw1 hX
 refine bZ (fun W => W.heap[X]? = some (.cells #[.int .i64 3, .int .i64 0, .string ⟨#[]⟩, .slice la ln lc] 88 (0, 0))) 8 (by kernel_rfl) ?_
 change bT _ _ _ _ _ _ _ _ _ (World.drew w1)
 generalize World.drew w1 = w2 at *
 refine aM 0 (.slice a n c) rfl (by kernel_rfl) (by kernel_rfl) (by kernel_rfl) (by kernel_rfl) (fun _ _ _ h => h) rfl (fun W (h : W.heap[X]? = some (.cells #[.int .i64 3, .int .i64 0, .string ⟨#[]⟩, .slice la ln lc] 88 (0, 0))) => ?y0) hx2 ?_
 case y0 => (obtain ⟨_, f0, f1, f2, f3, _, _⟩ := aF (Below.refl _ W) h; go_simp; try rfl)
 try simp only [Act.put, zA]
 refine aM 3 (.pointer (some ⟨X, 3, none⟩)) rfl (by kernel_rfl) (by kernel_rfl) (by kernel_rfl) (by kernel_rfl) (fun _ _ _ h => h) rfl (fun W (h : W.heap[X]? = some (.cells #[.int .i64 3, .int .i64 0, .string ⟨#[]⟩, .slice la ln lc] 88 (0, 0))) => ?y3) hx2 ?_
 case y3 => (obtain ⟨_, f0, f1, f2, f3, _, _⟩ := aF (Below.refl _ W) h; go_simp; try rfl)
 try simp only [Act.put]
 refine aM 4 (.slice la ln lc) rfl (by kernel_rfl) (by kernel_rfl) (by kernel_rfl) (by kernel_rfl) (fun _ _ _ h => h) rfl (fun W (h : W.heap[X]? = some (.cells #[.int .i64 3, .int .i64 0, .string ⟨#[]⟩, .slice la ln lc] 88 (0, 0))) => ?y4) hx2 ?_
 case y4 => (obtain ⟨_, f0, f1, f2, f3, _, _⟩ := aF (Below.refl _ W) h; go_simp; try rfl)
 try simp only [Act.put]
 refine aM 5 (.int .i64 (ln : Int)) rfl (by kernel_rfl) (by kernel_rfl) (by kernel_rfl) (by kernel_rfl) (fun _ _ _ h => h) rfl (fun W (h : W.heap[X]? = some (.cells #[.int .i64 3, .int .i64 0, .string ⟨#[]⟩, .slice la ln lc] 88 (0, 0))) => ?y5) hx2 ?_
 case y5 => (obtain ⟨_, f0, f1, f2, f3, _, _⟩ := aF (Below.refl _ W) h; go_simp; try rfl)
 try simp only [Act.put]
 refine aM 6 (.int .u64 (ln : Int)) rfl (by kernel_rfl) (by kernel_rfl) (by kernel_rfl) (by kernel_rfl) (fun _ _ _ h => h) rfl (fun W (h : W.heap[X]? = some (.cells #[.int .i64 3, .int .i64 0, .string ⟨#[]⟩, .slice la ln lc] 88 (0, 0))) => ?y6) hx2 ?_
 case y6 => (obtain ⟨_, f0, f1, f2, f3, _, _⟩ := aF (Below.refl _ W) h; have hcv := HCV.out; go_simp; try rfl)
 try simp only [Act.put]
 have hz2' := Nat.le_trans hB hk2.below.size
 refine aC 1 (by kernel_rfl) rfl rfl ?_
 unfold Oper.wp
 go_simp
 refine ⟨aB _ hx2, ?_⟩
 try simp only [Act.put, zA]
 refine aC 2 (by kernel_rfl) rfl rfl ?_
 refine dA (.tmp 8) (.tmp 9) 40 rfl B 5 i0 (.int .u8 0) 1 1 Tryz.underlying40 hi0 hz0 hz1 hz2 rfl (by decide) (.slice a n c) n xs rfl (ho2.alloc _) (some ⟨w2.heap.size, 0, none⟩) 1 1 [.int .u8 3] rfl rfl (fun h => by cases h) (eX _ _) (by intro q hq; simp only [List.mem_singleton] at hq; subst hq; rfl) (by unfold maxLen; omega) (by omega) (by simp; omega) ?_
 intro va vc w3 hown3 hgrow3
 have hk3 : co B w w3 := (hk2.alloc hz2' _).trans (co.of_grown hgrow3 (ho2.alloc _) (by simp; omega))
 have hx3 : w3.heap[X]? = some (.cells #[.int .i64 3, .int .i64 0, .string ⟨#[]⟩, .slice la ln lc] 88 (0, 0)) := (co.of_grown hgrow3 (ho2.alloc _) (by simp; omega)).keep _ _ _ _ (aB _ hx2) (by decide)
 refine ⟨.inr hx3, ?_⟩
 try simp only [Act.put, zA]
 refine aC 7 (by kernel_rfl) rfl rfl ?_
 unfold Oper.wp
 go_simp
 have hz3 := Nat.le_trans hB hk3.below.size
 have hnum := it B va (n + 1) vc ln (xs ++ [.int .u8 3]) w3 hz3 (by omega) (by omega) hown3
 obtain ⟨L1, hL1⟩ := zg (xs ++ [.int .u8 3] ++ af (cB ln))
 rw [<- hL1] at hnum
 have hl1 : L1.length = n + 1 + (cB ln).length := by rw [hL1]; simp [af]; have := HXL.out; omega
 have HL1 := aa hL1
 have HLEN1 := aa hl1
 clear hL1 hl1
 refine hnum.mono ?_
 rintro e w5 ⟨⟨vb, vd, rfl, hown5⟩, hk5⟩
 have hx5 := hk5.keep _ _ _ _ hx3 (by decide)
 have hk6 := hk3.trans hk5
 refine ⟨hx5, ?_⟩
 try simp only [Act.put, zA]
 refine aC 8 (by kernel_rfl) rfl rfl ?_
 unfold Oper.wp
 go_simp
 refine c7 (by kernel_rfl) ?_
 clear hnum hown3 hgrow3 hx3 hk3 hx2 hk2 ho2 hk5 hz3
 have HOWN5 := aa hown5
 have HX5 := aa hx5
 have HK6 := aa hk6
 clear hown5 hx5 hk6
 obtain ⟨_, f0, f1, f2, f3, _, _⟩ := aF (Below.refl _ w5) HX5.out
 go_wp2
 clear f0 f1 f2 f3
 go_loopw [0, 19] (fun s0 s19 wr => ∃ (k : Nat) (A : Option Addr) (C : Nat) (R : List Value), k <= ln /\ s19 = .int .i64 k /\ s0 = .slice A R.length C /\ R = L1 ++ af (bP (l.take k)) /\ wr.ownsRow B 5 1 (.slice A R.length C) R.length R /\ co B w wr) (fun _ s19 _ => ln - (intOf s19).toNat)
 case atStart => exact ⟨0, vb, vd, L1, Nat.zero_le _, rfl, rfl, by simp [bP, af], HOWN5.out, HK6.out⟩
 case round =>
  clear HOWN5 HK6 HX5
  obtain ⟨k, A, C, R, hk, rfl, rfl, hR, hown, hkp⟩ := hrel
  have HR := aa hR
  have HOWN := aa hown
  have hz := Nat.le_trans hB hkp.below.size
  have hbw := hB0.trans hkp.below
  have HWr := aa (HW.out.kept hkp)
  have HKP := aa hkp
  clear hR hown hkp
  by_cases hlt : k < ln
  ·obtain ⟨x, hx⟩ := av HLL.out hlt
   obtain ⟨qb, qo, rfl, v0, v1, v2, v3, hvr, c0, c1, c2, c3⟩ : ∃ qb qo, la = some ⟨qb, qo, none⟩ /\ ∃ v0 v1 v2 v3, VR d w0 [v0, v1, v2, v3] x /\ w0.cell? ⟨qb, qo + k * 4, none⟩ = some v0 /\ w0.cell? ⟨qb, qo + k * 4 + 1, none⟩ = some v1 /\ w0.cell? ⟨qb, qo + k * 4 + 2, none⟩ = some v2 /\ w0.cell? ⟨qb, qo + k * 4 + 3, none⟩ = some v3 := by
    rcases Sl.at4 HSL.out with h0 | ⟨b, off, h0, hc⟩
    ·omega
    ·obtain ⟨v0, v1, v2, v3, h⟩ := hc k x hx
     exact ⟨b, off, h0, v0, v1, v2, v3, h⟩
   have hbw' : Below w0.heap.size w0 wr := by rw [<- HBE.out]; exact hbw
   have c0 := ag hbw' c0
   have c1 := ag hbw' c1
   have c2 := ag hbw' c2
   have c3 := ag hbw' c3
   have hsn := iC l k x hx
   have hln2 := eP l (k + 1)
   rw [hsn, List.length_append] at hln2
   obtain ⟨vm, vs, ea, en, ec, rfl, rfl, rfl, rfl⟩ := hvr.four
   have HVR := aa hvr
   have HSN := aa hsn
   have hRl : R.length + (aL x).length <= 900000 := by
    have h1 := congrArg List.length HR.out
    have h2 := HLEN1.out
    have h3 := HENC.out
    simp only [List.length_append, af, List.length_map] at h1
    omega
   clear hx hsn hln2 hvr hbw
   go_upto_region 5 with (fail)
   clear c0 c1 c2 c3
   obtain ⟨X7, hX7⟩ := zg wr.heap.size
   have hS7 := (Below.refl _ wr).alloc (Nat.le_refl _) (.cells #[.int .i64 (bi x), .int .i64 vm, .string vs, .slice ea en ec] 88)
   have hx7 := ak (w := wr) (.cells #[.int .i64 (bi x), .int .i64 vm, .string vs, .slice ea en ec] 88) hX7
   have ho7 := HOWN.out.alloc (.cells #[.int .i64 (bi x), .int .i64 vm, .string vs, .slice ea en ec] 88)
   have hk7 := HKP.out.alloc hz (.cells #[.int .i64 (bi x), .int .i64 vm, .string vs, .slice ea en ec] 88)
   rw [<- hX7]
   generalize wr.alloc (.cells #[.int .i64 (bi x), .int .i64 vm, .string vs, .slice ea en ec] 88) = w6 at *
   have hw6 := HW.out.kept hk7
   have hx8 : (World.drew w6).heap[X7]? = some (.cells #[.int .i64 (bi x), .int .i64 vm, .string vs, .slice ea en ec] 88 (0, 0)) := hx7
   have ho8 : (World.drew w6).ownsRow B 5 1 (.slice A R.length C) R.length R := ho7
   have hk8 := hk7.drew
   have hw8 := HW.out.kept hk8
   refine wp_region_still_tail 9 (by kernel_rfl) (by kernel_rfl) ?_
   simp only [List.take_succ_cons, List.take_zero, List.drop_succ_cons, List.drop_zero]
   change wpStill _ _ (World.drew w6) _ _ _
   generalize hw7 : World.drew w6 = w7 at *
   have HW7 := aa hw7
   clear hw7
   obtain ⟨_, e0, e1, e2, e3, _, _⟩ := aF (Below.refl _ w7) hx8
   obtain ⟨_, e4, _⟩ := Ct (Below.refl _ w7) hw8.var
   have e5 := hw8.cell x
   have k1 : ((bi x : Nat) : Int) < 4 := by have := rb x; omega
   have HX8 := aa hx8
   have HO8 := aa ho8
   have HK8 := aa hk8
   have HW8 := aa hw8
   clear hx7 ho7 hk7 hw6 hx8 ho8 hk8 hw8 hS7 hX7
   iterate 9 still_step
   refine wpStill_nil ?_
   change wpList _ _ _ _ _ (World.drew w6)
   rw [HW7.out]
   clear e0 e1 e2 e3 e4 e5
   have hcall := HIH.out x _ HVR.out Vb Wb A R.length C R w7 (by rw [<- HBE.out]; exact hB0.trans HK8.out.below) HW8.out hRl (by rw [<- HBE.out]; exact HO8.out)
   rw [<- HBE.out] at hcall
   have hRn : R ++ af (aL x) = L1 ++ af (bP (l.take (k + 1))) := by rw [HR.out, HSN.out]; simp [af]
   obtain ⟨R2, hR2⟩ := zg (R ++ af (aL x))
   rw [<- hR2] at hcall hRn
   have HRN := aa hRn
   have HCALL := aa hcall
   clear hRn hR2 hcall
   cases x
   all_goals
    simp only [wf, yG]
    go_wp2_with fail
    refine HCALL.out.mono ?_
    rintro e w9 ⟨⟨vg, vh, rfl, hown9⟩, hk9⟩
    have hk10 := HK8.out.trans hk9
    have HO9 := aa hown9
    clear hown9
    go_wp2
    go_roundw
    case rel => exact ⟨k + 1, vg, vh, R2, by omega, by go_num, rfl, HRN.out, HO9.out, hk10⟩
    case measure => simp [intOf]; omega
  ·obtain rfl : k = ln := by omega
   have hfin : R = xs ++ af (aL (.list l)) := by
    rw [HR.out, HL1.out, List.take_of_length_le (by have := HLL.out; omega)]
    simp [aL, af, HLL.out]
   subst hfin
   go_wp2
   go_ret
   exact ⟨⟨A, C, rfl, HOWN.out⟩, HKP.out⟩
theorem um (w0 : World) : ∀ d, vZ w0 d := by
 intro d
 induction d with
 | zero =>
  intro v vs h Vb Wb a n c xs w hB hw hn hown
  cases v with
  | int m =>
   obtain ⟨⟨h1, h2⟩, la, lc, rfl⟩ := h.int_inv
   exact q9 _ a n c xs m la lc w hB.size (by omega) h1 h2 hown
  | text s =>
   obtain ⟨la, lc, rfl⟩ := h.text_inv
   have : s.length <= (aL (.text s)).length := by simp [aL]; omega
   exact pK _ a n c xs s la lc w hB.size (by omega) hown
  | list l => exact absurd h id
 | succ d ih =>
  intro v vs h Vb Wb a n c xs w hB hw hn hown
  cases v with
  | int m =>
   obtain ⟨⟨h1, h2⟩, la, lc, rfl⟩ := h.int_inv
   exact q9 _ a n c xs m la lc w hB.size (by omega) h1 h2 hown
  | text s =>
   obtain ⟨la, lc, rfl⟩ := h.text_inv
   have : s.length <= (aL (.text s)).length := by simp [aL]; omega
   exact pK _ a n c xs s la lc w hB.size (by omega) hown
  | list l =>
   obtain ⟨e, he, la, ln, lc, rfl, _, hsl⟩ := h.list_inv
   cases he
   exact wa w0 d ih l la ln lc hsl Vb Wb a n c xs w hB hw hn hown
theorem og (n : Int) (la : Option Addr) (lc : Nat) (w : World) :
  Calls Tryz.prog 120 #[.agg #[.int .i64 1, .int .i64 n, .string ⟨#[]⟩, .slice la 0 lc]] w fun e w' => e = .returned (.tuple #[.int .i64 0, .bool true]) /\ Below w.heap.size w w' := by
 by_cases hn : n = 0
 ·subst hn
  go_enter Tryz.func120, Tryz.ntmps120
  go_wp2
  go_ret2
  exact ⟨rfl, by go_grown⟩
 ·have h1 : decide (n = 0) = false := by simpa using hn
  have h2 : (n == 0) = false := by simpa using hn
  go_enter Tryz.func120, Tryz.ntmps120
  go_wp2
  go_ret2
  exact ⟨rfl, by go_grown⟩
theorem mM (s : List UInt8) (la : Option Addr) (lc : Nat) (w : World) :
  Calls Tryz.prog 120 #[.agg #[.int .i64 2, .int .i64 0, .string (aw s), .slice la 0 lc]] w fun e w' => e = .returned (.tuple #[.int .i64 0, .bool true]) /\ Below w.heap.size w w' := by
 go_enter Tryz.func120, Tryz.ntmps120
 go_wp2
 all_goals
  go_ret2
  exact ⟨rfl, by go_grown⟩
def pi (d : Nat) (e : Ending) : Prop := ∃ m : Nat, m <= d /\ e = .returned (.tuple #[.int .i64 m, .bool true])
theorem sH (d : Nat) (hd : d <= 1000) (IH : ∀ (v : aT) (vs : List Value) (w : World), VR d w vs v -> (aL v).length <= 1000000 -> Calls Tryz.prog 120 #[.agg vs.toArray] w fun e w' => pi d e /\ Below w.heap.size w w')
  (l : List aT) (la : Option Addr) (ln lc : Nat) (w : World) (hm : ln <= 1000000) (hel : (bP l).length <= 1000000) (hsl : Sl 4 (VR d) w la ln l) :
  Calls Tryz.prog 120 #[.agg #[.int .i64 3, .int .i64 0, .string ⟨#[]⟩, .slice la ln lc]] w fun e w' => pi (d + 1) e /\ Below w.heap.size w w' := by
 have HSL := aa hsl
 have HIH := aa IH
 have HLL := aa hsl.len
 clear hsl IH
 go_enter Tryz.func120, Tryz.ntmps120
 go_wp2
 have hB1 : Below w.heap.size w ((w.alloc (.cells #[.int .i64 3, .int .i64 0, .string ⟨#[]⟩, .slice la ln lc] 88)).alloc (.cells #[.bool false, .bool ((ln : Int) == 0), .bool ((ln : Int) == 0), .bool true] 175)) := ((Below.refl _ w).alloc (Nat.le_refl _) _).alloc (by simp) _
 generalize (w.alloc (.cells #[.int .i64 3, .int .i64 0, .string ⟨#[]⟩, .slice la ln lc] 88)).alloc (.cells #[.bool false, .bool ((ln : Int) == 0), .bool ((ln : Int) == 0), .bool true] 175) = w1 at *
 go_loopw [2, 57] (fun s2 s57 wr => ∃ k m : Nat, k <= ln /\ m <= d /\ s57 = .int .i64 k /\ s2 = .int .i64 m /\ Below w.heap.size w wr) (fun _ s57 _ => ln - (intOf s57).toNat)
 case atStart => exact ⟨0, 0, Nat.zero_le _, Nat.zero_le _, rfl, rfl, hB1⟩
 case round =>
  clear hB1
  obtain ⟨k, m, hk, hmd, rfl, rfl, hB⟩ := hrel
  by_cases hlt : k < ln
  ·obtain ⟨x, hx⟩ := av HLL.out hlt
   obtain ⟨qb, qo, rfl, v0, v1, v2, v3, hvr, c0, c1, c2, c3⟩ : ∃ qb qo, la = some ⟨qb, qo, none⟩ /\ ∃ v0 v1 v2 v3, VR d w [v0, v1, v2, v3] x /\ w.cell? ⟨qb, qo + k * 4, none⟩ = some v0 /\ w.cell? ⟨qb, qo + k * 4 + 1, none⟩ = some v1 /\ w.cell? ⟨qb, qo + k * 4 + 2, none⟩ = some v2 /\ w.cell? ⟨qb, qo + k * 4 + 3, none⟩ = some v3 := by
    rcases Sl.at4 HSL.out with h0 | ⟨b, off, h0, hc⟩
    ·omega
    ·obtain ⟨v0, v1, v2, v3, h⟩ := hc k x hx
     exact ⟨b, off, h0, v0, v1, v2, v3, h⟩
   have c0 := ag hB c0
   have c1 := ag hB c1
   have c2 := ag hB c2
   have c3 := ag hB c3
   obtain ⟨vm, vs, ea, en, ec, rfl, rfl, rfl, rfl⟩ := hvr.four
   have hBa := hB.alloc hB.size (.cells #[.int .i64 (bi x), .int .i64 vm, .string vs, .slice ea en ec] 88)
   have HVR := aa (VR.below d _ _ _ _ hBa hvr)
   have hxl : (aL x).length <= 1000000 := by have h1 := iC l k x hx; have h2 := eP l (k + 1); rw [h1, List.length_append] at h2; omega
   clear hx hvr
   go_wp2_with fail
   refine (HIH.out x _ _ HVR.out hxl).mono ?_
   rintro e w3 ⟨⟨q, hq, rfl⟩, hB3⟩
   have hb3 := hBa.trans (hB3.mono hBa.size)
   clear c0 c1 c2 c3 hBa hB3
   go_wp2
   go_roundw
   case rel => exact ⟨k + 1, max m q, by omega, by omega, by go_num, by congr 1; split <;> omega, hb3⟩
   case measure => simp [intOf]; omega
  ·obtain rfl : k = ln := by omega
   go_wp2
   go_ret2
   exact ⟨⟨m + 1, by omega, rfl⟩, hB⟩
theorem uo : ∀ (d : Nat), d <= 1000 -> ∀ (v : aT) (vs : List Value) (w : World), (aL v).length <= 1000000 -> VR d w vs v -> Calls Tryz.prog 120 #[.agg vs.toArray] w fun e w' => pi d e /\ Below w.heap.size w w' := by
 intro d
 induction d with
 | zero =>
  intro _ v vs w hl h
  cases v with
  | int n => obtain ⟨_, a, c, rfl⟩ := h.int_inv; exact (og n a c w).mono fun e w' ⟨he, hb⟩ => ⟨⟨0, Nat.zero_le _, he⟩, hb⟩
  | text s => obtain ⟨a, c, rfl⟩ := h.text_inv; exact (mM s a c w).mono fun e w' ⟨he, hb⟩ => ⟨⟨0, Nat.zero_le _, he⟩, hb⟩
  | list l => exact absurd h id
 | succ d ih =>
  intro hd v vs w hl h
  cases v with
  | int n => obtain ⟨_, a, c, rfl⟩ := h.int_inv; exact (og n a c w).mono fun e w' ⟨he, hb⟩ => ⟨⟨0, Nat.zero_le _, he⟩, hb⟩
  | text s => obtain ⟨a, c, rfl⟩ := h.text_inv; exact (mM s a c w).mono fun e w' ⟨he, hb⟩ => ⟨⟨0, Nat.zero_le _, he⟩, hb⟩
  | list l =>
   obtain ⟨_, hde, a, n, c, rfl, _, hsl⟩ := h.list_inv
   cases hde
   have hln : l.length <= (bP l).length := by
    have : ∀ l : List aT, l.length <= (bP l).length := by
     intro l
     induction l with
     | nil => simp [bP]
     | cons v l ih =>
      have : 1 <= (aL v).length := by cases v <;> simp [aL]
      simp only [bP, List.length_cons, List.length_append]
      omega
    exact this l
   have hln2 : (bP l).length <= (aL (.list l)).length := by simp [aL]; omega
   exact sH d (by omega) (fun v vs w hv hl2 => ih (by omega) v vs w hl2 hv) l a n c w (by have := hsl.len; omega) (by omega) hsl
theorem uq (d : Nat) (hd : d <= 16) (v : aT) (v0 v1 v2 v3 : Value) (w : World) (hl : (aL v).length <= 1000000) (h : VR d w [v0, v1, v2, v3] v) :
  Calls Tryz.prog 95 #[.agg #[v0, v1, v2, v3]] w fun e w' => e = .returned (.int .i64 0) /\ Below w.heap.size w w' := by
 obtain ⟨vm, vs, ea, en, ec, rfl, rfl, rfl, rfl⟩ := h.four
 have H := aa h
 clear h
 go_enter Tryz.func95, Tryz.ntmps95
 go_wp2_with fail
 have hB := (Below.refl _ w).alloc (Nat.le_refl _) (.cells #[.int .i64 (bi v), .int .i64 vm, .string vs, .slice ea en ec] 88)
 refine (uo d (by omega) v _ _ hl (VR.below d _ _ _ _ hB H.out)).mono ?_
 rintro e w2 ⟨⟨m, hm, rfl⟩, hB2⟩
 have hb := hB.trans (hB2.mono hB.size)
 have k1 : ¬ (16 : Int) < (m : Int) := by omega
 clear hB hB2
 go_wp2
 go_ret
 exact ⟨rfl, hb⟩
theorem gP (d : Nat) (hd : d <= 16) (v : aT) (E : List UInt8) (hE : aL v = E) (v0 v1 v2 v3 : Value) (w : World) (hl : E.length <= 900000) (h : VR d w [v0, v1, v2, v3] v) :
  Calls Tryz.prog 53 #[.agg #[v0, v1, v2, v3]] w fun e w' => (∃ va vc, e = .returned (.tuple #[.slice va E.length vc, .int .i64 0]) /\ w'.ownsRow w.heap.size 5 1 (.slice va E.length vc) E.length (af E)) /\ Below w.heap.size w w' := by
 have HE := aa hE
 clear hE
 obtain ⟨vm, vs, ea, en, ec, rfl, rfl, rfl, rfl⟩ := h.four
 have H := aa h
 clear h
 go_enter Tryz.func53, Tryz.ntmps53
 go_upto_region 1 with (fail)
 obtain ⟨X, hX⟩ := zg w.heap.size
 have hB := (Below.refl _ w).alloc (Nat.le_refl _) (.cells #[.int .i64 (bi v), .int .i64 vm, .string vs, .slice ea en ec] 88)
 have hx := ak (w := w) (.cells #[.int .i64 (bi v), .int .i64 vm, .string vs, .slice ea en ec] 88) hX
 rw [<- hX]
 generalize w.alloc (.cells #[.int .i64 (bi v), .int .i64 vm, .string vs, .slice ea en ec] 88) = w1 at *
 have H1 := aa (VR.below d _ _ _ _ hB H.out)
 have HX := aa hx
 obtain ⟨_, f0, f1, f2, f3, _, _⟩ := aF (Below.refl _ w1) hx
 clear hx hX
 go_wp2_with fail
 refine (uq d hd v _ _ _ _ w1 (by rw [HE.out]; omega) H1.out).mono ?_
 rintro e w2 ⟨rfl, hB2⟩
 have hb2 := hB.trans (hB2.mono hB.size)
 have hx2 := (hB2.block _ (lt_of_block HX.out)).trans HX.out
 have hv2 := VR.below d _ _ _ _ hB2 H1.out
 clear f0 f1 f2 f3 hB hB2 HX
 go_upto_region 4 with (fail)
 refine bZ (fun W => W.heap[X]? = some (.cells #[.int .i64 (bi v), .int .i64 vm, .string vs, .slice ea en ec] 88 (0, 0))) 10 (by kernel_rfl) ?_
 change bT _ _ _ _ _ _ _ _ _ (World.drew w2)
 have hx3 : (World.drew w2).heap[X]? = some (.cells #[.int .i64 (bi v), .int .i64 vm, .string vs, .slice ea en ec] 88 (0, 0)) := hx2
 have hb3 : Below w.heap.size w (World.drew w2) := hb2.drew
 have hv3 : VR d (World.drew w2) [.int .i64 (bi v), .int .i64 vm, .string vs, .slice ea en ec] v := VR.below d _ _ _ _ ((Below.refl _ w2).drew) hv2
 generalize World.drew w2 = w3 at *
 clear hx2 hb2 hv2
 refine aM 1 (.pointer (some ⟨X, 0, none⟩)) rfl (by kernel_rfl) (by kernel_rfl) (by kernel_rfl) (by kernel_rfl) (fun _ _ _ h => h) rfl (fun W (h : W.heap[X]? = some (.cells #[.int .i64 (bi v), .int .i64 vm, .string vs, .slice ea en ec] 88 (0, 0))) => ?y1) hx3 ?_
 case y1 => (obtain ⟨_, f0, f1, f2, f3, _, _⟩ := aF (Below.refl _ W) h; go_simp; try rfl)
 try simp only [Act.put, zA]
 refine aM 2 (.int .i64 (bi v)) rfl (by kernel_rfl) (by kernel_rfl) (by kernel_rfl) (by kernel_rfl) (fun _ _ _ h => h) rfl (fun W (h : W.heap[X]? = some (.cells #[.int .i64 (bi v), .int .i64 vm, .string vs, .slice ea en ec] 88 (0, 0))) => ?y2) hx3 ?_
 case y2 => (obtain ⟨_, f0, f1, f2, f3, _, _⟩ := aF (Below.refl _ W) h; go_simp; try rfl)
 try simp only [Act.put]
 refine aM 7 (.agg #[.int .i64 (bi v), .int .i64 vm, .string vs, .slice ea en ec]) rfl (by kernel_rfl) (by kernel_rfl) (by kernel_rfl) (by kernel_rfl) (fun _ _ _ h => h) rfl (fun W (h : W.heap[X]? = some (.cells #[.int .i64 (bi v), .int .i64 vm, .string vs, .slice ea en ec] 88 (0, 0))) => ?y7) hx3 ?_
 case y7 => (obtain ⟨_, f0, f1, f2, f3, _, _⟩ := aF (Below.refl _ W) h; go_simp; try rfl)
 try simp only [Act.put]
 refine aC 0 (by kernel_rfl) rfl rfl ?_
 unfold Oper.wp
 go_simp
 refine (qw w3).mono ?_
 rintro e w4 ⟨rfl, hw4⟩
 have hS4 : Below w3.heap.size w3 w4 := by rw [hw4]; exact ((Below.refl _ w3).alloc (Nat.le_refl _) _).alloc (by simp) _
 have hWr : lG w4 (w3.heap.size + 1) w3.heap.size := by
  rw [hw4]
  exact ⟨ak _ (by simp), aB _ (ak _ rfl)⟩
 clear hw4
 have hx4 := (hS4.block _ (lt_of_block hx3)).trans hx3
 have HX4 := aa hx4
 have hb4 := hb3.trans (hS4.mono hb3.size)
 obtain ⟨Wb, hWb⟩ := zg w3.heap.size
 rw [<- hWb] at hWr ⊢
 obtain ⟨Vb, hVb⟩ := zg (Wb + 1)
 rw [<- hVb] at hWr
 have hv4 := VR.below d _ _ _ _ hS4 hv3
 have k1 : ((bi v : Nat) : Int) < 4 := by have := rb v; omega
 have e5 := hWr.cell v
 clear hWb hVb hS4 hv3 hx4 hx3
 refine ⟨HX4.out, ?_⟩
 try simp only [Act.put, zA]
 refine aC 3 (by kernel_rfl) rfl rfl ?_
 unfold Oper.wp
 go_simp
 refine ⟨HX4.out, ?_⟩
 try simp only [Act.put, zA]
 refine aC 4 (by kernel_rfl) rfl rfl ?_
 unfold Oper.wp
 go_simp
 refine ⟨HX4.out, ?_⟩
 try simp only [Act.put, zA]
 refine aC 5 (by kernel_rfl) rfl rfl ?_
 unfold Oper.wp
 go_simp
 refine ⟨HX4.out, ?_⟩
 try simp only [Act.put, zA]
 refine aC 6 (by kernel_rfl) rfl rfl ?_
 unfold Oper.wp
 go_simp
 refine ⟨HX4.out, ?_⟩
 try simp only [Act.put, zA]
 have hcall := um w4 d v _ hv4 Vb Wb none 0 0 [] w4 (Below.refl _ _) hWr (by rw [HE.out]; omega) (World.ownsRow_nil w4 w4.heap.size 5 1)
 rw [List.nil_append, HE.out] at hcall
 have HCALL := aa hcall
 clear hcall e5
 refine aC 8 (by kernel_rfl) rfl rfl ?_
 unfold Oper.wp
 cases v
 all_goals
  simp only [wf, yG]
  go_simp
  refine HCALL.out.mono ?_
  rintro e w5 ⟨⟨va, vc, rfl, hown5⟩, hk5⟩
  have hx5 := hk5.keep _ _ _ _ HX4.out (by decide)
  have hb5 := hb4.trans (hk5.below.mono hb4.size)
  have hel : (af E).length = E.length := by simp [af]
  rw [hel] at hown5 ⊢
  have hown6 : w5.ownsRow w.heap.size 5 1 (.slice va E.length vc) E.length (af E) := by
   obtain ⟨q1, q2⟩ := hown5
   refine ⟨q1, ?_⟩
   rcases q2 with q2 | ⟨g, cap, cur, q2, q3, q4⟩
   ·exact .inl q2
   ·exact .inr ⟨g, cap, cur, q2, Nat.le_trans hb4.size q3, q4⟩
  have HX5 := aa hx5
  clear hown5 hel hx5
  refine ⟨HX5.out, ?_⟩
  try simp only [Act.put, zA]
  refine aC 9 (by kernel_rfl) rfl rfl ?_
  unfold Oper.wp
  go_simp
  refine ⟨HX5.out, ?_⟩
  try simp only [Act.put, zA]
  refine aC 10 (by kernel_rfl) rfl rfl ?_
  unfold Oper.wp
  go_simp
  refine c7 (by kernel_rfl) ?_
  go_wp2
  go_ret2
  exact ⟨⟨va, vc, rfl, hown6⟩, hb5⟩
theorem dB {w : World} {a : Option Addr} {n c : Nat} {bs : List UInt8} (h : Sl 1 ai w a n bs) : (convert 40 9 (.slice a n c)).run Tryz.prog w = .ok (.string (aw bs)) w := by
 obtain ⟨hl, h⟩ := h
 subst hl
 cases a with
 | none =>
  rcases h with h | ⟨b, off, h, _⟩
  ·rw [run_convert_bytes_nil w 40 5 Tryz.underlying40 Tryz.underlying5 _ _ 9 Tryz.underlying9]
   rw [List.eq_nil_of_length_eq_zero h]
   rfl
  ·cases h
 | some ad =>
  rcases h with h | ⟨b, off, h, hc⟩
  ·have h0 : bs = [] := List.eq_nil_of_length_eq_zero h
   subst h0
   rw [run_convert_bytes_string w 40 9 5 _ _ _ Tryz.underlying40 Tryz.underlying5 Tryz.underlying9]
   rw [show ([] : List UInt8).length = 0 from rfl, run_bytesToString w ad 0 c [] (by simp [loadCells, loadCellsFrom, Sem.run_pure])]
   rfl
  ·simp only [Option.some.injEq] at h
   subst h
   have := run_convert_bytes_arg (P := Tryz.prog) w 40 5 Tryz.underlying40 Tryz.underlying5 b off bs.length c (bs.map fun x => (x.toNat : Int)) (by simp) (fun i hi => by
    obtain ⟨vs, _, hv, hcell⟩ := hc i bs[i] (List.getElem?_eq_getElem hi)
    obtain rfl : vs = _ := hv
    have h2 := hcell 0 _ rfl
    simp only [Nat.mul_one, Nat.add_zero] at h2
    rw [h2]
    simp [List.getD, hi]) 9 Tryz.underlying9
   rw [this]
   simp [strOfNums, aw, Function.comp_def]
structure ar where
 node : Int
 no : Int
 prev : List UInt8
 data : List UInt8
def ah (x : ar) (a : Option Addr) (n c : Nat) : List Value := .int .i64 x.node :: .int .i64 x.no :: (af x.prev ++ [.slice a n c])
theorem bh {x : ar} (h : x.prev.length = 32) (a : Option Addr) (n c : Nat) : (ah x a n c).length = 35 := by simp [ah, af, h]
theorem jg : (Tryz.prog.info? 50).map (·.size) = some 35 := by kernel_rfl
def bQ (n : Int) : Prop := -9223372036854775808 <= n /\ n <= 9223372036854775807
def aq : World -> List Value -> ar -> Prop := fun w vs x => ∃ a n c, vs = ah x a n c /\ x.prev.length = 32 /\ bQ x.node /\ bQ x.no /\ n <= c /\ Sl 1 ai w a n x.data
theorem aq.keeps : ju aq := fun _ _ _ _ hb ⟨a, n, c, h1, h2, h3, h4, h5, h6⟩ => ⟨a, n, c, h1, h2, h3, h4, h5, h6.below ai.keeps hb⟩
theorem kD (n : Int) (w : World) :
  Calls Tryz.prog 55 #[.int .i64 n] w fun e w' => e = .returned (.agg #[.int .i64 1, .int .i64 n, .string ⟨#[]⟩, .slice none 0 0]) /\ Below w.heap.size w w' := by
 go_enter Tryz.func55, Tryz.ntmps55
 go_wp2
 refine bodyPost_ret (by simp [results, Tryz.results55, go_sem]; try rfl) rfl ?_
 exact ⟨rfl, by go_grown⟩
theorem pL (a : Option Addr) (n c : Nat) (l : List UInt8) (w : World) (h : Sl 1 ai w a n l) :
  Calls Tryz.prog 56 #[.slice a n c] w fun e w' => e = .returned (.agg #[.int .i64 2, .int .i64 0, .string (aw l), .slice none 0 0]) /\ Below w.heap.size w w' := by
 have hB := (Below.refl _ w).alloc (Nat.le_refl _) (.cells #[.int .i64 0, .int .i64 0, .string ⟨#[]⟩, .slice none 0 0] 88)
 have hcv := dB (c := c) (h.below ai.keeps hB)
 clear hB
 go_enter Tryz.func56, Tryz.ntmps56
 go_wp2
 refine bodyPost_ret (by simp [results, Tryz.results56, go_sem]; try rfl) rfl ?_
 exact ⟨rfl, by go_grown⟩
theorem we (a : Option Addr) (n c : Nat) (w : World) :
  Calls Tryz.prog 54 #[.slice a n c] w fun e w' => e = .returned (.agg #[.int .i64 3, .int .i64 0, .string ⟨#[]⟩, .slice a n c]) /\ Below w.heap.size w w' := by
 go_enter Tryz.func54, Tryz.ntmps54
 go_wp2
 refine bodyPost_ret (by simp [results, Tryz.results54, go_sem]; try rfl) rfl ?_
 exact ⟨rfl, by go_grown⟩
def cM (x : ar) : aT := .list [.int x.node, .int x.no, .text x.prev, .text x.data]
def qF : List UInt8 := [110, 111, 110, 101]
def oh : List UInt8 := [108, 105, 110, 107]
def bR (l : List ar) : List UInt8 := match l.getLast? with
 | none => ik qF []
 | some x => ik oh (aL (cM x))
theorem dI (l : List ar) : (bR l).length = 32 := by unfold bR; split <;> exact kL _ _
theorem gJ (x : ar) (h1 : bQ x.node) (h2 : bQ x.no) (hp : x.prev.length = 32) (hd : x.data.length <= 100000) : (aL (cM x)).length <= 200000 := by
 have q : ∀ n : Int, bQ n -> (cB (eA n)).length <= 10 := fun n h => cH (by unfold eA; obtain ⟨a, b⟩ := h; split <;> omega)
 have q1 := q _ h1
 have q2 := q _ h2
 have q3 := cH (show x.data.length < 18446744073709551616 by omega)
 have q4 := cH (show x.prev.length < 18446744073709551616 by omega)
 have q5 : (cB (0 + 1 + 1 + 1 + 1)).length <= 10 := cH (by omega)
 simp only [cM, aL, bP, List.length_cons, List.length_append, List.length_nil]
 omega
theorem mj (w : World) (g : Nat) (x : ar) (h1 : bQ x.node) (h2 : bQ x.no)
  (h : ac w g 88 [.int .i64 1, .int .i64 x.node, .string ⟨#[]⟩, .slice none 0 0, .int .i64 1, .int .i64 x.no, .string ⟨#[]⟩, .slice none 0 0, .int .i64 2, .int .i64 0, .string (aw x.prev), .slice none 0 0, .int .i64 2, .int .i64 0, .string (aw x.data), .slice none 0 0]) :
  VR 1 w [.int .i64 3, .int .i64 0, .string ⟨#[]⟩, .slice (some ⟨g, 0, none⟩) 4 4] (cM x) := by
 refine ⟨_, 4, 4, rfl, Nat.le_refl _, rfl, .inr ⟨g, 0, rfl, fun i v hv => ?_⟩⟩
 have hc := ac.cell h
 match i, hv with
 | 0, hv =>
  cases hv
  refine ⟨[.int .i64 1, .int .i64 x.node, .string ⟨#[]⟩, .slice none 0 0], rfl, ⟨h1, none, 0, rfl⟩, fun j u hu => ?_⟩
  match j, hu with
  | 0, hu => exact (hc 0).trans hu
  | 1, hu => exact (hc 1).trans hu
  | 2, hu => exact (hc 2).trans hu
  | 3, hu => exact (hc 3).trans hu
  | j + 4, hu => simp at hu
 | 1, hv =>
  cases hv
  refine ⟨[.int .i64 1, .int .i64 x.no, .string ⟨#[]⟩, .slice none 0 0], rfl, ⟨h2, none, 0, rfl⟩, fun j u hu => ?_⟩
  match j, hu with
  | 0, hu => exact (hc 4).trans hu
  | 1, hu => exact (hc 5).trans hu
  | 2, hu => exact (hc 6).trans hu
  | 3, hu => exact (hc 7).trans hu
  | j + 4, hu => simp at hu
 | 2, hv =>
  cases hv
  refine ⟨[.int .i64 2, .int .i64 0, .string (aw x.prev), .slice none 0 0], rfl, ⟨none, 0, rfl⟩, fun j u hu => ?_⟩
  match j, hu with
  | 0, hu => exact (hc 8).trans hu
  | 1, hu => exact (hc 9).trans hu
  | 2, hu => exact (hc 10).trans hu
  | 3, hu => exact (hc 11).trans hu
  | j + 4, hu => simp at hu
 | 3, hv =>
  cases hv
  refine ⟨[.int .i64 2, .int .i64 0, .string (aw x.data), .slice none 0 0], rfl, ⟨none, 0, rfl⟩, fun j u hu => ?_⟩
  match j, hu with
  | 0, hu => exact (hc 12).trans hu
  | 1, hu => exact (hc 13).trans hu
  | 2, hu => exact (hc 14).trans hu
  | 3, hu => exact (hc 15).trans hu
  | j + 4, hu => simp at hu
 | i + 4, hv => simp at hv
theorem dj (x : ar) (a : Option Addr) (n c : Nat) : (ah x a n c)[0]? = some (.int .i64 x.node) := rfl
theorem fi (x : ar) (a : Option Addr) (n c : Nat) : (ah x a n c)[1]? = some (.int .i64 x.no) := rfl
theorem em {x : ar} (h : x.prev.length = 32) (a : Option Addr) (n c : Nat) : (ah x a n c)[34]? = some (.slice a n c) := by
 unfold ah
 rw [List.getElem?_cons_succ, List.getElem?_cons_succ, List.getElem?_append_right (by simp [af, h])]
 simp [af, h]
theorem iN {x : ar} (i : Nat) (b : UInt8) (hb : x.prev[i]? = some b) (a : Option Addr) (n c : Nat) : (ah x a n c)[i + 2]? = some (.int .u8 b.toNat) := by
 unfold ah
 rw [List.getElem?_cons_succ, List.getElem?_cons_succ, List.getElem?_append_left (by have := (List.getElem?_eq_some_iff.1 hb).1; simpa [af] using this)]
 exact cd hb
theorem Av {w : World} {X : Nat} {x : ar} {a : Option Addr} {n c : Nat} (hp : x.prev.length = 32) (h : ac w X 50 (ah x a n c)) : Sl 1 ai w (some ⟨X, 2, none⟩) 32 x.prev := by
 refine ⟨hp, .inr ⟨X, 2, rfl, fun i b hb => ⟨[.int .u8 b.toNat], rfl, rfl, fun j v hv => ?_⟩⟩⟩
 match j, hv with
 | 0, hv =>
  simp only [List.getElem?_cons_zero, Option.some.injEq] at hv
  subst hv
  have := (ac.cell h (i + 2)).trans (iN i b hb a n c)
  rwa [show i + 2 = 2 + i * 1 + 0 by omega] at this
theorem bM (x : ar) (a : Option Addr) (n c : Nat) : (ah x a n c).toArray.all (·.oneCell') = true := by
 have h := je x.prev
 simp only [List.all_toArray] at h
 simp only [ah, List.all_toArray, List.all_cons, List.all_append, h]
 rfl
theorem nr (a : Option Addr) (n c : Nat) (l : List ar) (w : World) (hn : n <= 100000) (hi : dV w) (h : Sl 35 aq w a n l) (hd : ∀ x ∈ l, x.data.length <= 100000) :
  Calls Tryz.prog 19 #[.slice a n c] w fun e w' => e = .returned (br (bR l)) /\ Below w.heap.size w w' := by
 have H := aa h
 have HI := aa hi
 have hlen : l.length = n := h.len
 have HLEN := aa hlen
 clear h hi hlen
 obtain ⟨D2, hD2, hdv2, hi2, ho2, hs2⟩ := ez (bR l) (dI l)
 have HV2 := aa hdv2
 have HI2 := aa hi2
 have HO2 := aa ho2
 have HS2 := aa hs2
 have hsz : Hid ((af (List.replicate 32 0)).toArray.size = 32) := by simp [Hid, af]
 clear hD2 hdv2 hi2 ho2 hs2
 go_enter Tryz.func19, Tryz.ntmps19
 by_cases h0 : n = 0
 ·have hl0 : l = [] := List.eq_nil_of_length_eq_zero (by rw [HLEN.out]; exact h0)
  subst h0
  go_upto_region 2 with (fail)
  obtain ⟨D0, hD0⟩ := zg w.heap.size
  obtain ⟨w1, hw1⟩ := zg (w.alloc (.cells zI 48))
  rw [<- hw1, <- hD0]
  have hd1 : ac w1 D0 48 (af (List.replicate 32 0)) := by rw [hw1, hD0]; exact ak _ rfl
  have hB1 : Below w.heap.size w w1 := by rw [hw1]; exact (Below.refl _ w).alloc (Nat.le_refl _) _
  have HD1 := aa hd1
  have HD0 := aa hD0
  clear hw1 hD0 hd1
  go_wp2_with fail
  have hT := oe ⟨#[110, 111, 110, 101]⟩ none 0 0 [] w1 (by decide) (by omega) (HI.out.below hB1) (Sl.nil _ _ _ _)
  have hdv3 : br (ik (ByteArray.mk #[110, 111, 110, 101]).data.toList []) = .agg D2 := by rw [<- HV2.out, hl0]; rfl
  rw [hdv3] at hT
  refine hT.mono ?_
  rintro e w7 ⟨rfl, hB7⟩
  have hb7 := hB1.trans (hB7.mono hB1.size)
  have HD7 := aa (HD1.out.below hB7 HD1.out.lt)
  clear hT hdv3 hB7 hl0
  go_wp2_with (refine wpList_store_row rfl 48 (.tmp 2) (.tmp 9) rfl D0 D2 ?e1 ?e2 48 _ HD7.out HI2.out ?e3 HO2.out ?_; (case e1 => rfl); (case e2 => rfl); (case e3 => exact hsz.out.trans HS2.out.symm))
  refine bodyPost_ret (results_cell_row rfl _ _ D0 48 D2 (0, 0) _ rfl (setRow_heap _ _ _ _ _ _ HD7.out) Tryz.underlying48 rfl HI2.out) rfl ?_
  exact ⟨by rw [HV2.out], below_setRow hb7 (by rw [HD0.out]; exact Nat.le_refl _) _⟩
 ·obtain ⟨k, hk⟩ := zg (n - 1)
  have hk1 : (n : Int) - 1 = (k : Int) := by omega
  have k1 : (k : Int) < (n : Int) := by omega
  have k2 : ¬ (n : Int) = 0 := by omega
  obtain ⟨x, hx⟩ := av HLEN.out (show k < n by omega)
  have hlast : l.getLast? = some x := by rw [List.getLast?_eq_getElem?, HLEN.out, <- hk]; exact hx
  have hxd := hd x (List.mem_of_getElem? hx)
  obtain ⟨b, off, rfl, L, hLl, ⟨da, dn, dc, rfl, hp, hi1, hi2, hdc, hsd⟩, hcell⟩ : ∃ b off, a = some ⟨b, off, none⟩ /\ ∃ L : List Value, L.length = 35 /\ aq w L x /\ ∀ j v, L[j]? = some v -> w.cell? ⟨b, off + k * 35 + j, none⟩ = some v := by
   rcases H.out.2 with h | ⟨b, off, h, hc⟩
   ·exact absurd h h0
   ·obtain ⟨L, g1, g2, g3⟩ := hc k x hx
    exact ⟨b, off, h, L, g1, g2, g3⟩
  have hhd : bR l = ik oh (aL (cM x)) := by unfold bR; rw [hlast]
  have HHD := aa hhd
  have hdn : x.data.length = dn := hsd.len
  clear hhd hlast hx hk h0 hd
  go_upto_region 3 with (fail)
  obtain ⟨D0, hD0⟩ := zg w.heap.size
  obtain ⟨w1, hw1⟩ := zg (w.alloc (.cells zI 48))
  rw [<- hw1, <- hD0]
  have hd1 : ac w1 D0 48 (af (List.replicate 32 0)) := by rw [hw1, hD0]; exact ak _ rfl
  have hB1 : Below w.heap.size w w1 := by rw [hw1]; exact (Below.refl _ w).alloc (Nat.le_refl _) _
  have hr1 : w1.rangeAt b (off + k * 35) (ah x da dn dc) := fun j v hv => ag hB1 (hcell j v hv)
  have HD1 := aa hd1
  have HD0 := aa hD0
  have HR1 := aa hr1
  have hi37 : (Tryz.prog.info? 50).map (·.size) = some (ah x da dn dc).length := by rw [bh hp]; exact jg
  have HI37 := aa hi37
  have hi37' : (Tryz.prog.info? 50).map (·.size) = some (ah x da dn dc).toArray.size := by rw [List.size_toArray]; exact hi37
  have HI37a := aa hi37'
  have HONE := aa (bM x da dn dc)
  have HLL := aa (bh hp da dn dc)
  have HSD := aa hsd
  have HDN := aa hdn
  clear hw1 hD0 hd1 hr1 hcell hi37 hi37' hsd hdn
  go_upto_region 4 with (first | (refine wpList_load_mid rfl 50 (.tmp 14) rfl b (off + k * 35) ?e1 (ah x da dn dc) _ HR1.out Tryz.underlying50 rfl HI37.out ?_; (case e1 => rfl)) | (refine wpList_store_row rfl 50 (.tmp 3) (.tmp 15) rfl w1.heap.size (ah x da dn dc).toArray ?e2 ?e3 50 zH (heap_alloc_new w1 _) HI37a.out ?e4 HONE.out ?_; (case e2 => rfl); (case e3 => rfl); (case e4 => exact HLL.out.symm)))
  have hx2 : ac ((w1.alloc (.cells zH 50)).setRow w1.heap.size (ah x da dn dc).toArray) w1.heap.size 50 (ah x da dn dc) := setRow_heap _ _ _ _ _ _ (heap_alloc_new w1 _)
  have hS2 : Below w1.heap.size w1 ((w1.alloc (.cells zH 50)).setRow w1.heap.size (ah x da dn dc).toArray) := bf _ _ _
  generalize (w1.alloc (.cells zH 50)).setRow w1.heap.size (ah x da dn dc).toArray = w2 at *
  obtain ⟨X, hX⟩ := zg w1.heap.size
  rw [<- hX] at hx2 ⊢
  have hb2 := hB1.trans (hS2.mono hB1.size)
  have HD2 := aa (HD1.out.below hS2 HD1.out.lt)
  have hx3 : ac (World.drew w2) X 50 (ah x da dn dc) := hx2
  have hb3 : Below w.heap.size w (World.drew w2) := hb2.drew
  have hd3 : ac (World.drew w2) D0 48 (af (List.replicate 32 0)) := HD2.out
  clear hX hS2 hx2 hb2 HD2
  refine bZ (fun W => ac W X 50 (ah x da dn dc)) 19 (by kernel_rfl) ?_
  change bT _ _ _ _ _ _ _ _ _ (World.drew w2)
  generalize World.drew w2 = w3 at *
  simp only [Act.put]
  refine aM 0 (.pointer (some ⟨X, 0, none⟩)) rfl (by kernel_rfl) (by kernel_rfl) (by kernel_rfl) (by kernel_rfl) (fun _ _ _ h => h) rfl (fun W (h : ac W X 50 (ah x da dn dc)) => ?y0) hx3 ?_
  case y0 => (go_simp; try rfl)
  try simp only [Act.put, zA]
  refine aM 1 (.int .i64 x.node) rfl (by kernel_rfl) (by kernel_rfl) (by kernel_rfl) (by kernel_rfl) (fun _ _ _ h => h) rfl (fun W (h : ac W X 50 (ah x da dn dc)) => ?y1) hx3 ?_
  case y1 => (have c0 := (ac.cell h 0).trans (dj x da dn dc); go_simp; try rfl)
  try simp only [Act.put]
  refine aM 3 (.pointer (some ⟨X, 1, none⟩)) rfl (by kernel_rfl) (by kernel_rfl) (by kernel_rfl) (by kernel_rfl) (fun _ _ _ h => h) rfl (fun W (h : ac W X 50 (ah x da dn dc)) => ?y3) hx3 ?_
  case y3 => (go_simp; try rfl)
  try simp only [Act.put]
  refine aM 4 (.int .i64 x.no) rfl (by kernel_rfl) (by kernel_rfl) (by kernel_rfl) (by kernel_rfl) (fun _ _ _ h => h) rfl (fun W (h : ac W X 50 (ah x da dn dc)) => ?y4) hx3 ?_
  case y4 => (have c1 := (ac.cell h 1).trans (fi x da dn dc); go_simp; try rfl)
  try simp only [Act.put]
  refine aM 6 (.pointer (some ⟨X, 2, none⟩)) rfl (by kernel_rfl) (by kernel_rfl) (by kernel_rfl) (by kernel_rfl) (fun _ _ _ h => h) rfl (fun W (h : ac W X 50 (ah x da dn dc)) => ?y6) hx3 ?_
  case y6 => (go_simp; try rfl)
  try simp only [Act.put]
  refine aM 7 (.slice (some ⟨X, 2, none⟩) 32 32) rfl (by kernel_rfl) (by kernel_rfl) (by kernel_rfl) (by kernel_rfl) (fun _ _ _ h => h) rfl (fun W (h : ac W X 50 (ah x da dn dc)) => ?y7) hx3 ?_
  case y7 => (go_simp; try rfl)
  try simp only [Act.put]
  refine aM 9 (.pointer (some ⟨X, 34, none⟩)) rfl (by kernel_rfl) (by kernel_rfl) (by kernel_rfl) (by kernel_rfl) (fun _ _ _ h => h) rfl (fun W (h : ac W X 50 (ah x da dn dc)) => ?y9) hx3 ?_
  case y9 => (go_simp; try rfl)
  try simp only [Act.put]
  refine aM 10 (.slice da dn dc) rfl (by kernel_rfl) (by kernel_rfl) (by kernel_rfl) (by kernel_rfl) (fun _ _ _ h => h) rfl (fun W (h : ac W X 50 (ah x da dn dc)) => ?y10) hx3 ?_
  case y10 => (have c34 := (ac.cell h 34).trans (em hp da dn dc); go_simp; try rfl)
  try simp only [Act.put]
  have hx_w3 := hx3
  have hb_w3 := hb3
  have hd_w3 := hd3
  clear hx3 hb3 hd3
  refine aC 2 (by kernel_rfl) rfl rfl ?_
  unfold Oper.wp
  go_simp
  refine (kD x.node w3).mono ?_
  rintro e w4 ⟨rfl, hBw4⟩
  have hx_w4 := hx_w3.below hBw4 hx_w3.lt
  have hb_w4 := hb_w3.trans (hBw4.mono hb_w3.size)
  have hd_w4 := hd_w3.below hBw4 hd_w3.lt
  clear hx_w3 hb_w3 hd_w3 hBw4
  refine ⟨hx_w4, ?_⟩
  try simp only [Act.put, zA]
  refine aC 5 (by kernel_rfl) rfl rfl ?_
  unfold Oper.wp
  go_simp
  refine (kD x.no w4).mono ?_
  rintro e w5 ⟨rfl, hBw5⟩
  have hx_w5 := hx_w4.below hBw5 hx_w4.lt
  have hb_w5 := hb_w4.trans (hBw5.mono hb_w4.size)
  have hd_w5 := hd_w4.below hBw5 hd_w4.lt
  clear hx_w4 hb_w4 hd_w4 hBw5
  refine ⟨hx_w5, ?_⟩
  try simp only [Act.put, zA]
  refine aC 8 (by kernel_rfl) rfl rfl ?_
  unfold Oper.wp
  go_simp
  refine (pL (some ⟨X, 2, none⟩) 32 32 x.prev w5 (Av hp hx_w5)).mono ?_
  rintro e w6 ⟨rfl, hBw6⟩
  have hx_w6 := hx_w5.below hBw6 hx_w5.lt
  have hb_w6 := hb_w5.trans (hBw6.mono hb_w5.size)
  have hd_w6 := hd_w5.below hBw6 hd_w5.lt
  clear hx_w5 hb_w5 hd_w5 hBw6
  refine ⟨hx_w6, ?_⟩
  try simp only [Act.put, zA]
  refine aC 11 (by kernel_rfl) rfl rfl ?_
  unfold Oper.wp
  go_simp
  refine (pL da dn dc x.data w6 (HSD.out.below ai.keeps hb_w6)).mono ?_
  rintro e w7 ⟨rfl, hBw7⟩
  have hx_w7 := hx_w6.below hBw7 hx_w6.lt
  have hb_w7 := hb_w6.trans (hBw7.mono hb_w6.size)
  have hd_w7 := hd_w6.below hBw7 hd_w6.lt
  clear hx_w6 hb_w6 hd_w6 hBw7
  refine ⟨hx_w7, ?_⟩
  try simp only [Act.put, zA]
  have hBa := (Below.refl _ w7).alloc (Nat.le_refl _) (.cells #[.int .i64 1, .int .i64 x.node, .string ⟨#[]⟩, .slice none 0 0, .int .i64 1, .int .i64 x.no, .string ⟨#[]⟩, .slice none 0 0, .int .i64 2, .int .i64 0, .string (aw x.prev), .slice none 0 0, .int .i64 2, .int .i64 0, .string (aw x.data), .slice none 0 0] 88)
  obtain ⟨G, hG⟩ := zg w7.heap.size
  have hrg := ak (w := w7) (.cells #[.int .i64 1, .int .i64 x.node, .string ⟨#[]⟩, .slice none 0 0, .int .i64 1, .int .i64 x.no, .string ⟨#[]⟩, .slice none 0 0, .int .i64 2, .int .i64 0, .string (aw x.prev), .slice none 0 0, .int .i64 2, .int .i64 0, .string (aw x.data), .slice none 0 0] 88) hG
  have hvr := mj (w7.alloc (.cells #[.int .i64 1, .int .i64 x.node, .string ⟨#[]⟩, .slice none 0 0, .int .i64 1, .int .i64 x.no, .string ⟨#[]⟩, .slice none 0 0, .int .i64 2, .int .i64 0, .string (aw x.prev), .slice none 0 0, .int .i64 2, .int .i64 0, .string (aw x.data), .slice none 0 0] 88)) G x hi1 hi2 hrg
  have HX8 := aa (hx_w7.alloc (.cells #[.int .i64 1, .int .i64 x.node, .string ⟨#[]⟩, .slice none 0 0, .int .i64 1, .int .i64 x.no, .string ⟨#[]⟩, .slice none 0 0, .int .i64 2, .int .i64 0, .string (aw x.prev), .slice none 0 0, .int .i64 2, .int .i64 0, .string (aw x.data), .slice none 0 0] 88))
  have hb_w8 := hb_w7.alloc hb_w7.size (.cells #[.int .i64 1, .int .i64 x.node, .string ⟨#[]⟩, .slice none 0 0, .int .i64 1, .int .i64 x.no, .string ⟨#[]⟩, .slice none 0 0, .int .i64 2, .int .i64 0, .string (aw x.prev), .slice none 0 0, .int .i64 2, .int .i64 0, .string (aw x.data), .slice none 0 0] 88)
  have hd_w8 := hd_w7.alloc (.cells #[.int .i64 1, .int .i64 x.node, .string ⟨#[]⟩, .slice none 0 0, .int .i64 1, .int .i64 x.no, .string ⟨#[]⟩, .slice none 0 0, .int .i64 2, .int .i64 0, .string (aw x.prev), .slice none 0 0, .int .i64 2, .int .i64 0, .string (aw x.data), .slice none 0 0] 88)
  have HB8 := aa hb_w8
  have HD8 := aa hd_w8
  have HVR := aa hvr
  have HG := aa hG
  clear hBa hG hrg hvr hx_w7 hb_w7 hd_w7 hb_w8 hd_w8
  refine aC 12 (by kernel_rfl) rfl rfl ?_
  unfold Oper.wp
  go_simp
  rw [<- HG.out]
  refine ⟨HX8.out, ?_⟩
  try simp only [Act.put, zA]
  generalize w7.alloc (.cells #[.int .i64 1, .int .i64 x.node, .string ⟨#[]⟩, .slice none 0 0, .int .i64 1, .int .i64 x.no, .string ⟨#[]⟩, .slice none 0 0, .int .i64 2, .int .i64 0, .string (aw x.prev), .slice none 0 0, .int .i64 2, .int .i64 0, .string (aw x.data), .slice none 0 0] 88) = w8 at *
  clear HG
  refine aC 13 (by kernel_rfl) rfl rfl ?_
  unfold Oper.wp
  go_simp
  refine (we (some ⟨G, 0, none⟩) 4 4 w8).mono ?_
  rintro e w9 ⟨rfl, hB9⟩
  have HX9 := aa (HX8.out.below hB9 HX8.out.lt)
  have HB9 := aa (HB8.out.trans (hB9.mono HB8.out.size))
  have HD9 := aa (HD8.out.below hB9 HD8.out.lt)
  have HVR9 := aa (VR.below 1 _ _ _ _ hB9 HVR.out)
  clear hB9 HX8 HB8 HD8 HVR
  refine ⟨HX9.out, ?_⟩
  try simp only [Act.put, zA]
  refine aC 14 (by kernel_rfl) rfl rfl ?_
  unfold Oper.wp
  go_simp
  refine (gP 1 (by omega) (cM x) _ rfl _ _ _ _ w9 (by have := gJ x hi1 hi2 hp hxd; omega) HVR9.out).mono ?_
  have hel := gJ x hi1 hi2 hp hxd
  have hhd := HHD.out
  obtain ⟨E, hE⟩ := zg (aL (cM x))
  rw [<- hE] at hel hhd ⊢
  have HHD2 := aa hhd
  clear hhd hE HHD
  rintro e w10 ⟨⟨va, vc, rfl, hown⟩, hB10⟩
  obtain ⟨_, hvc, hsv⟩ := d8 (R := ai) hown E rfl (fun i x hx => ⟨_, cd hx, rfl⟩)
  have HSV := aa hsv
  have hx10 := HX9.out.below hB10 HX9.out.lt
  have hb10 := HB9.out.trans (hB10.mono HB9.out.size)
  have hd10 := HD9.out.below hB10 HD9.out.lt
  have HX10 := aa hx10
  clear hown hsv hB10 HX9 HB9 HD9 HVR9 hx10
  refine ⟨HX10.out, ?_⟩
  try simp only [Act.put, zA]
  refine aC 15 (by kernel_rfl) rfl rfl ?_
  unfold Oper.wp
  go_simp
  refine ⟨HX10.out, ?_⟩
  try simp only [Act.put, zA]
  refine aM 16 (.slice va E.length vc) rfl (by kernel_rfl) (by kernel_rfl) (by kernel_rfl) (by kernel_rfl) (fun _ _ _ h => h) rfl (fun W (h : ac W X 50 (ah x da dn dc)) => ?y16) HX10.out ?_
  case y16 => (go_simp; try rfl)
  try simp only [Act.put, zA]
  refine aM 17 (.int .i64 0) rfl (by kernel_rfl) (by kernel_rfl) (by kernel_rfl) (by kernel_rfl) (fun _ _ _ h => h) rfl (fun W (h : ac W X 50 (ah x da dn dc)) => ?y17) HX10.out ?_
  case y17 => (go_simp; try rfl)
  try simp only [Act.put]
  refine aC 18 (by kernel_rfl) rfl rfl ?_
  unfold Oper.wp
  go_simp
  refine ⟨HX10.out, ?_⟩
  try simp only [Act.put, zA]
  refine aC 19 (by kernel_rfl) rfl rfl ?_
  unfold Oper.wp
  go_simp
  refine c7 (by kernel_rfl) ?_
  have HD10 := aa hd10
  clear hd10
  go_wp2_with fail
  have hT := oe ⟨#[108, 105, 110, 107]⟩ va E.length vc E w10 (by decide) (by omega) (HI.out.below hb10) HSV.out
  have hdv3 : br (ik (ByteArray.mk #[108, 105, 110, 107]).data.toList E) = .agg D2 := by rw [<- HV2.out, HHD2.out]; rfl
  rw [hdv3] at hT
  refine hT.mono ?_
  rintro e w11 ⟨rfl, hB11⟩
  have hb11 := hb10.trans (hB11.mono hb10.size)
  have HD11 := aa (HD10.out.below hB11 HD10.out.lt)
  clear hT hdv3 hB11
  go_wp2_with (refine wpList_store_row rfl 48 (.tmp 2) (.tmp 35) rfl D0 D2 ?e1 ?e2 48 _ HD11.out HI2.out ?e3 HO2.out ?_; (case e1 => rfl); (case e2 => rfl); (case e3 => exact hsz.out.trans HS2.out.symm))
  refine bodyPost_ret (results_cell_row rfl _ _ D0 48 D2 (0, 0) _ rfl (setRow_heap _ _ _ _ _ _ HD11.out) Tryz.underlying48 rfl HI2.out) rfl ?_
  exact ⟨by rw [HV2.out], below_setRow hb11 (by rw [HD0.out]; exact Nat.le_refl _) _⟩
def bv : Nat -> List UInt8 -> Option (Nat × List UInt8)
 | _, [] => none
 | i, c :: r => if (i ≠ 0 /\ c.toNat = 0) \/ (9 <= i /\ 1 < c.toNat) then none else if c.toNat < 128 then some (c.toNat, r) else match bv (i + 1) r with
  | none => none
  | some (u, s) => some (c.toNat % 128 + 128 * u, s)
def dT (u : Nat) : Int := if u % 2 = 0 then ((u / 2 : Nat) : Int) else -((u / 2 : Nat) : Int) - 1
def bj (f : List UInt8 -> Option (aT × List UInt8)) : Nat -> List UInt8 -> Option (List aT × List UInt8)
 | 0, r => some ([], r)
 | n + 1, r => match f r with
  | none => none
  | some (v, s) => match bj f n s with
   | none => none
   | some (vs, t) => some (v :: vs, t)
def cx (r : List UInt8) : Option (Nat × List UInt8) := match bv 0 r with
 | none => none
 | some (n, s) => if n <= s.length then some (n, s) else none
def aV : Nat -> List UInt8 -> Option (aT × List UInt8)
 | _, [] => none
 | 0, c :: r => if c.toNat = 1 then (match bv 0 r with
   | none => none
   | some (u, s) => some (.int (dT u), s))
  else if c.toNat = 2 then (match cx r with
   | none => none
   | some (n, s) => some (.text (s.take n), s.drop n))
  else none
 | d + 1, c :: r => if c.toNat = 1 then (match bv 0 r with
   | none => none
   | some (u, s) => some (.int (dT u), s))
  else if c.toNat = 2 then (match cx r with
   | none => none
   | some (n, s) => some (.text (s.take n), s.drop n))
  else if c.toNat = 3 then (match cx r with
   | none => none
   | some (n, s) => match bj (aV d) n s with
    | none => none
    | some (vs, t) => some (.list vs, t))
  else none
def ct (b : List UInt8) : Option aT := match aV 16 b with
 | some (v, []) => some v
 | _ => none
theorem mN {u : Nat} (h : u < 256) : (UInt8.ofNat u).toNat = u := by simp [UInt8.toNat_ofNat']; omega
theorem wg (u : Nat) : ∀ (i : Nat) (r : List UInt8), i <= 9 -> (i = 0 \/ u ≠ 0) -> u < 2 ^ (64 - 7 * i) -> bv i (cB u ++ r) = some (u, r) := by
 induction u using Nat.strongRecOn with
 | ind u ih =>
  intro i r hi h0 hu
  by_cases hs : u < 128
  ·rw [gU hs]
   show bv i (UInt8.ofNat u :: r) = _
   have e := mN (show u < 256 by omega)
   unfold bv
   rw [e, if_neg, if_pos hs]
   rintro (⟨h1, h2⟩ | ⟨h1, h2⟩)
   ·rcases h0 with h0 | h0
    ·exact h1 h0
    ·exact h0 h2
   ·have : i = 9 := by omega
    subst this
    have : u < 2 := by simpa using hu
    omega
  ·rw [jf hs]
   show bv i (UInt8.ofNat (u % 128 + 128) :: (cB (u / 128) ++ r)) = _
   have e := mN (show u % 128 + 128 < 256 by omega)
   have hi8 : i < 9 := by
    rcases Nat.lt_or_ge i 9 with h | h
    ·exact h
    ·have : i = 9 := by omega
     subst this
     have : u < 2 := by simpa using hu
     omega
   have hp : 2 ^ (64 - 7 * i) = 128 * 2 ^ (64 - 7 * (i + 1)) := by
    rw [show 64 - 7 * i = 7 + (64 - 7 * (i + 1)) by omega, Nat.pow_add]
   have ih' := ih (u / 128) (by omega) (i + 1) r (by omega) (.inr (by omega)) (by rw [hp] at hu; omega)
   unfold bv
   rw [e, if_neg (by omega), if_neg (by omega), ih']
   simp only [Option.some.injEq, Prod.mk.injEq, and_true]
   omega
theorem rd {u : Nat} (h : u < 18446744073709551616) (r : List UInt8) : bv 0 (cB u ++ r) = some (u, r) := wg u 0 r (by omega) (.inl rfl) (by simpa using h)
theorem Aw {n : Int} (_h : bQ n) : dT (eA n) = n := by
 unfold dT eA
 split <;> split <;> omega
theorem BG {n : Int} (h : bQ n) : eA n < 18446744073709551616 := by unfold eA; obtain ⟨a, b⟩ := h; split <;> omega
theorem re {n : Nat} {r : List UInt8} (h : n <= r.length) (h2 : n < 18446744073709551616) : cx (cB n ++ r) = some (n, r) := by
 unfold cx
 rw [rd h2]
 exact if_pos h
inductive ns : Nat -> aT -> Prop where
 | int {d : Nat} {n : Int} (h : bQ n) : ns d (.int n)
 | text {d : Nat} {s : List UInt8} (h : s.length < 18446744073709551616) : ns d (.text s)
 | list {d : Nat} {l : List aT} (h : l.length < 18446744073709551616) (hl : ∀ v ∈ l, ns d v) : ns (d + 1) (.list l)
theorem yH (v : aT) : 1 <= (aL v).length := by cases v <;> simp [aL]
theorem Ay (l : List aT) : l.length <= (bP l).length := by
 induction l with
 | nil => simp
 | cons v l ih => have := yH v; simp [bP]; omega
theorem wh {f : List UInt8 -> Option (aT × List UInt8)} (l : List aT) (r : List UInt8) (h : ∀ v ∈ l, ∀ s, f (aL v ++ s) = some (v, s)) : bj f l.length (bP l ++ r) = some (l, r) := by
 induction l with
 | nil => simp [bj, bP]
 | cons v l ih =>
  have h1 := h v (by simp) (bP l ++ r)
  have h2 := ih (fun x hx => h x (by simp [hx]))
  simp only [List.length_cons, bP, List.append_assoc, bj, h1, h2]
theorem yI {d : Nat} {v : aT} (h : ns d v) : ∀ r, aV d (aL v ++ r) = some (v, r) := by
 induction h with
 | @int d n h =>
  intro r
  simp only [aL, List.cons_append]
  cases d <;> simp [aV, rd (BG h), Aw h]
 | @text d s h =>
  intro r
  simp only [aL, List.cons_append, List.append_assoc]
  have h1 : cx (cB s.length ++ (s ++ r)) = some (s.length, s ++ r) := re (by simp) h
  cases d <;> simp [aV, h1]
 | @list d l h hl ih =>
  intro r
  simp only [aL, List.cons_append, List.append_assoc]
  have h1 : cx (cB l.length ++ (bP l ++ r)) = some (l.length, bP l ++ r) := re (by have := Ay l; simp; omega) h
  have h2 := wh l r (fun v hv s => ih v hv s)
  simp [aV, h1, h2]
theorem rf {v : aT} (h : ns 16 v) : ct (aL v) = some v := by
 have := yI h []
 rw [List.append_nil] at this
 unfold ct
 rw [this]
def bk : aT -> Int
 | .int n => n
 | _ => 0
def aI : aT -> List UInt8
 | .text s => s
 | _ => []
def aP (b : List UInt8) : Option ar := match ct b with
 | some (.list [p, q, r, s]) => if (aI r).length = 32 /\ aL (cM ⟨bk p, bk q, aI r, aI s⟩) = b then some ⟨bk p, bk q, aI r, aI s⟩ else none
 | _ => none
theorem ol {x : ar} (h1 : bQ x.node) (h2 : bQ x.no) (hp : x.prev.length = 32) (hd : x.data.length < 18446744073709551616) : ns 16 (cM x) := by
 refine .list (by simp) fun v hv => ?_
 simp only [List.mem_cons, List.not_mem_nil, or_false] at hv
 rcases hv with rfl | rfl | rfl | rfl
 ·exact .int h1
 ·exact .int h2
 ·exact .text (by omega)
 ·exact .text hd
theorem sI {x : ar} (h1 : bQ x.node) (h2 : bQ x.no) (hp : x.prev.length = 32) (hd : x.data.length < 18446744073709551616) : aP (aL (cM x)) = some x := by
 have h := rf (ol h1 h2 hp hd)
 unfold aP
 rw [h]
 simp [cM, bk, aI, hp]
def aK : List (List UInt8) -> List ar × Bool
 | [] => ([], true)
 | b :: rs => match aP b with
  | none => ([], false)
  | some x => (x :: (aK rs).1, (aK rs).2)
structure az (R : Nat) (W W' : World) : Prop where
 os : W'.os = W.os
 tape : W'.tape = W.tape
 output : W'.output = W.output
 size : W.heap.size <= W'.heap.size
 block : ∀ k, k < W.heap.size -> k ≠ R -> W'.heap[k]? = W.heap[k]?
theorem az.refl (R : Nat) (W : World) : az R W W := ⟨rfl, rfl, rfl, Nat.le_refl _, fun _ _ _ => rfl⟩
theorem az.of_below {R : Nat} {W W' : World} (h : Below W.heap.size W W') : az R W W' := ⟨h.os, h.tape, h.output, h.size, fun k hk _ => h.block k hk⟩
theorem az.trans {R : Nat} {A B C : World} (h : az R A B) (k : az R B C) : az R A C :=
 ⟨k.os.trans h.os, k.tape.trans h.tape, k.output.trans h.output, Nat.le_trans h.size k.size, fun i hi hne => (k.block i (Nat.lt_of_lt_of_le hi h.size) hne).trans (h.block i hi hne)⟩
theorem az.setCell {R : Nat} {A B : World} (h : az R A B) {p : Addr} (hp : p.block = R) (v : Value) : az R A (B.setCell p v) :=
 h.trans ⟨((Below.refl 0 B).setCell (p := p) (Nat.zero_le _) v).os, ((Below.refl 0 B).setCell (p := p) (Nat.zero_le _) v).tape, ((Below.refl 0 B).setCell (p := p) (Nat.zero_le _) v).output, by simp, fun k _ hne => Below.heap_setCell _ _ _ k (by rw [hp]; exact hne)⟩
theorem az.alloc {R : Nat} {A B : World} (h : az R A B) (o : Obj) : az R A (B.alloc o) := h.trans (.of_below ((Below.refl _ B).alloc (Nat.le_refl _) o))
theorem az.drew {R : Nat} {A B : World} (h : az R A B) : az R A B.drew := h.trans (.of_below ((Below.refl _ B).drew))
theorem az.setNew {R : Nat} {A B : World} (h : az R A B) {p : Addr} (hp : A.heap.size <= p.block) (v : Value) : az R A (B.setCell p v) :=
 ⟨((Below.refl 0 B).setCell (p := p) (Nat.zero_le _) v).os.trans h.os, ((Below.refl 0 B).setCell (p := p) (Nat.zero_le _) v).tape.trans h.tape, ((Below.refl 0 B).setCell (p := p) (Nat.zero_le _) v).output.trans h.output, by simpa using h.size, fun k hk hne => (Below.heap_setCell _ _ _ k (by omega)).trans (h.block k hk hne)⟩
theorem az.grown {R : Nat} {A B C : World} {g : Option Nat} (h : az R A B) (hg : B.grownBy C g) (hn : ∀ q, g = some q -> A.heap.size <= q) : az R A C :=
 ⟨hg.os.trans h.os, hg.tape.trans h.tape, hg.output.trans h.output, Nat.le_trans h.size hg.size, fun k hk hne => (hg.block k (Nat.lt_of_lt_of_le hk h.size) (fun e => by have := hn k e.symm; omega)).trans (h.block k hk hne)⟩
theorem az.below {R B : Nat} {W W' : World} (h : az R W W') (hR : B <= R) (hB : B <= W.heap.size) : Below B W W' :=
 ⟨h.os, h.tape, h.output, h.size, fun k hk => h.block k (by omega) (by omega)⟩
theorem az.row {R : Nat} {W W' : World} (h : az R W W') {X : Nat} {t : TypeId} {L : List Value} (hX : X ≠ R) (hr : ac W X t L) : ac W' X t L := (h.block X hr.lt hX).trans hr
theorem az.own {R : Nat} {W W' : World} {base : Nat} {e : TypeId} {size n : Nat} {v : Value} {xs : List Value} (h : az R W W') (ho : W.ownsRow base e size v n xs) (hR : R < base) : W'.ownsRow base e size v n xs :=
 cZ ho fun g hg => h.block g (ho.lt g hg).2 (by have := bU ho g hg; omega)
def ce (W : World) (R : Nat) (l : List UInt8) : Prop := ∃ a n c, ac W R 161 [.slice a n c] /\ n <= c /\ Sl 1 ai W a n l /\ (n = 0 \/ ∀ ad, a = some ad -> ad.block < R)
theorem Sl.older {B : Nat} {W W' : World} {a : Option Addr} {n : Nat} {l : List UInt8} (hl : Sl 1 ai W a n l) (ho : n = 0 \/ ∀ ad, a = some ad -> ad.block < B) (hB : ∀ k, k < B -> W'.heap[k]? = W.heap[k]?) : Sl 1 ai W' a n l := by
 obtain ⟨h1, h2⟩ := hl
 refine ⟨h1, ?_⟩
 rcases h2 with h2 | ⟨b, off, ha, hc⟩
 ·exact .inl h2
 ·rcases ho with h0 | ho
  ·exact .inl h0
  refine .inr ⟨b, off, ha, fun i x hx => ?_⟩
  obtain ⟨vs, hk, hv, hcell⟩ := hc i x hx
  refine ⟨vs, hk, hv, fun j v hj => ?_⟩
  rw [World.cell?_of_block (hB b (ho _ ha))]
  exact hcell j v hj
theorem ce.lt {R : Nat} {W : World} {l : List UInt8} (h : ce W R l) : R < W.heap.size := by
 obtain ⟨a, m, c, h1, _⟩ := h
 exact h1.lt
theorem ce.keep {R : Nat} {W W' : World} {l : List UInt8} (h : ce W R l) (hk : ∀ k, k <= R -> W'.heap[k]? = W.heap[k]?) : ce W' R l := by
 obtain ⟨a, m, c, h1, h2, h3, h4⟩ := h
 exact ⟨a, m, c, (hk R (Nat.le_refl _)).trans h1, h2, Sl.older h3 h4 (fun k hlt => hk k (by omega)), h4⟩
theorem ce.below {R : Nat} {W W' : World} {l : List UInt8} (h : ce W R l) (hb : Below W.heap.size W W') : ce W' R l := h.keep fun k hk => hb.block k (by have := h.lt; omega)
theorem ce.moves {R X : Nat} {W W' : World} {l : List UInt8} (h : ce W R l) (hm : az X W W') (hX : R < X) : ce W' R l := h.keep fun k hk => hm.block k (by have := h.lt; omega) (by omega)
theorem ce.grown {R base n : Nat} {W W' : World} {e : TypeId} {size : Nat} {v : Value} {xs : List Value} {l : List UInt8} (h : ce W R l) (ho : W.ownsRow base e size v n xs) (hR : R < base) (hg : W.grownBy W' v.ownBlock) : ce W' R l :=
 h.keep fun k hk => hg.block k (by have := h.lt; omega) (fun e1 => by have := bU ho k e1.symm; omega)
def cu (A : Nat -> Prop) : Nat -> World -> List Value -> aT -> Prop
 | _, _, vs, .int n => bQ n /\ vs = [.int .i64 1, .int .i64 n, .string ⟨#[]⟩, .slice none 0 0]
 | _, _, vs, .text s => vs = [.int .i64 2, .int .i64 0, .string (aw s), .slice none 0 0]
 | 0, _, _, .list _ => False
 | d + 1, w, vs, .list l => ∃ a n c, vs = [.int .i64 3, .int .i64 0, .string ⟨#[]⟩, .slice a n c] /\ n <= c /\ (∀ ad, a = some ad -> n = 0 \/ A ad.block) /\ Sl 4 (cu A d) w a n l
theorem Sl.mapR {α : Type} {k : Nat} {R R' : World -> List Value -> α -> Prop} {w w' : World} {a : Option Addr} {n : Nat} {xs : List α} (h : Sl k R w a n xs) (hR : ∀ vs x, vs.length = k -> x ∈ xs -> R w vs x -> R' w' vs x) (hc : ∀ b off, a = some ⟨b, off, none⟩ -> n ≠ 0 -> ∀ i v, w.cell? ⟨b, i, none⟩ = some v -> w'.cell? ⟨b, i, none⟩ = some v) : Sl k R' w' a n xs := by
 obtain ⟨h1, h2⟩ := h
 refine ⟨h1, ?_⟩
 rcases h2 with h2 | ⟨b, off, ha, h3⟩
 ·exact .inl h2
 ·by_cases h0 : n = 0
  ·exact .inl h0
  refine .inr ⟨b, off, ha, fun i x hx => ?_⟩
  obtain ⟨vs, hk, hr, hv⟩ := h3 i x hx
  exact ⟨vs, hk, hR vs x hk (List.mem_of_getElem? hx) hr, fun j v hj => hc b off ha h0 _ v (hv j v hj)⟩
theorem cu.vr {A : Nat -> Prop} : ∀ {d : Nat} {W : World} {vs : List Value} {v : aT}, cu A d W vs v -> VR d W vs v
 | d, W, vs, .int n, h => by
  have h' : bQ n /\ vs = [.int .i64 1, .int .i64 n, .string ⟨#[]⟩, .slice none 0 0] := by cases d <;> simpa only [cu] using h
  cases d <;> exact ⟨h'.1, none, 0, h'.2⟩
 | d, W, vs, .text s, h => by
  have h' : vs = [.int .i64 2, .int .i64 0, .string (aw s), .slice none 0 0] := by cases d <;> simpa only [cu] using h
  cases d <;> exact ⟨none, 0, h'⟩
 | 0, W, vs, .list l, h => by simp only [cu] at h
 | d + 1, W, vs, .list l, h => by
  simp only [cu] at h
  obtain ⟨a, n, c, h1, h2, _, h4'⟩ := h
  have h4 : Sl 4 (cu A d) W a n l := h4'
  exact ⟨a, n, c, h1, h2, Sl.mapR h4 (fun _ _ _ _ h => h.vr) (fun _ _ _ _ _ _ h => h)⟩
theorem cu.keep {A A' : Nat -> Prop} {W W' : World} (hA : ∀ k, A k -> k < W.heap.size -> A' k /\ W'.heap[k]? = W.heap[k]?) : ∀ {d : Nat} {vs : List Value} {v : aT}, cu A d W vs v -> cu A' d W' vs v
 | d, vs, .int n, h => by cases d <;> simpa only [cu] using h
 | d, vs, .text s, h => by cases d <;> simpa only [cu] using h
 | 0, vs, .list l, h => by simp only [cu] at h
 | d + 1, vs, .list l, h => by
  simp only [cu] at h ⊢
  obtain ⟨a, n, c, h1, h2, h3, h4'⟩ := h
  have h4 : Sl 4 (cu A d) W a n l := h4'
  have hblk : ∀ b off, a = some ⟨b, off, none⟩ -> n ≠ 0 -> A b /\ b < W.heap.size := fun b off ha hn => by
   refine ⟨by rcases h3 _ ha with h | h; exact absurd h hn; exact h, ?_⟩
   rcases h4.2 with h5 | ⟨b', off', ha', h5⟩
   ·exact absurd h5 hn
   ·rw [ha] at ha'
    cases ha'
    obtain ⟨x, hx⟩ := av h4.1 (Nat.pos_of_ne_zero hn)
    obtain ⟨vs', hk, _, hv⟩ := h5 0 x hx
    match vs', hk with
    | v0 :: _, _ =>
     have hc := hv 0 v0 rfl
     unfold World.cell? at hc
     cases hh : W.heap[b]? with
     | none => simp [hh] at hc
     | some o => exact lt_of_block hh
  refine ⟨a, n, c, h1, h2, fun ad ha => ?_, ?_⟩
  ·rcases h3 ad ha with h | h
   ·exact .inl h
   ·by_cases hn : n = 0
    ·exact .inl hn
    ·rcases h4.2 with h5 | ⟨b, off, hb, _⟩
     ·exact absurd h5 hn
     ·rw [ha] at hb
      cases hb
      have := hblk b off ha hn
      exact .inr (hA b this.1 this.2).1
  ·show Sl 4 (cu A' d) W' a n l
   refine Sl.mapR h4 (fun vs x _ _ hx => cu.keep hA hx) (fun b off ha hn i v hc => ?_)
   have := hblk b off ha hn
   rw [World.cell?_of_block (hA b this.1 this.2).2]
   exact hc
theorem cu.mono {A A' : Nat -> Prop} {W : World} {d : Nat} {vs : List Value} {v : aT} (h : cu A d W vs v) (hA : ∀ k, A k -> k < W.heap.size -> A' k) : cu A' d W vs v := h.keep fun k h1 h2 => ⟨hA k h1 h2, rfl⟩
theorem gH {P : Program} {w : World} {o : Oper} {a : Act} {K : Act -> World -> Prop} {Q : Exit -> Act -> World -> Prop} (s x : Operand) (t : TypeId)
  (ho : o.op = .call { callee := .builtin .append, args := #[s, x], argTypes := #[t, t] })
  (base : Nat) (e : TypeId) (i : TypeInfo) (z : Value) (size bytes : Nat) (ht : P.underlying t = some (.slice e)) (hi : P.info? e = some i) (hz : i.zero = some z)
  (hsize : i.size = size) (hby : i.bytes = bytes) (hzs : z.cells.size = size) (hsz : 0 < size)
  (v : Value) (n : Nat) (xs : List Value) (hs : a.eval s = v) (hown : w.ownsRow base e size v n xs)
  (ad : Addr) (m c : Nat) (news : List Value) (hx : a.eval x = .slice (some ad) m c) (hl : news.length = m * size) (hnews : ∀ j u, news[j]? = some u -> w.cell? (ad.add j) = some u) (h1 : ∀ u ∈ news, u.oneCell' = true)
  (h63 : n + m <= maxLen) (hbytes : (n + m) * bytes <= 140737488355328) (hbase : base <= w.heap.size)
  (h : ∀ va vc w', w'.ownsRow base e size (.slice va (n + m) vc) (n + m) (xs ++ news) -> w.grownBy w' v.ownBlock -> ((Value.slice va (n + m) vc).ownBlock = v.ownBlock \/ (Value.slice va (n + m) vc).ownBlock = some w.heap.size) -> K (a.put o.dst (.slice va (n + m) vc)) w') : o.wp P a w K Q := by
 obtain ⟨v', w', hr, h2, h3, _, h4⟩ := run_append_own_at (P := P) w base t o.type e i z size bytes ht hi hz hsize hby hzs hsz v n xs hown ad m c news hl hnews h1 h63 hbytes hbase
 obtain ⟨va, vc, rfl⟩ := ft h2
 unfold Oper.wp execOp
 simp only [ho, resolve, invoke, builtin, Sem.run_bind, Sem.run_pure, Result.andThen_ok, List.map_toArray, List.map_cons, List.map_nil, hs, hx, hr]
 exact h va vc w' h2 h3 h4
theorem gV {P : Program} {w : World} {ops : Array Oper} {rest : List Oper} {o : Oper} {a : Act} {Q : Exit -> Act -> World -> Prop} (hgd : o.guard = none) (s x : Operand) (t : TypeId)
  (ho : o.op = .call { callee := .builtin .append, args := #[s, x], argTypes := #[t, t] })
  (base : Nat) (e : TypeId) (i : TypeInfo) (z : Value) (size bytes : Nat) (ht : P.underlying t = some (.slice e)) (hi : P.info? e = some i) (hz : i.zero = some z)
  (hsize : i.size = size) (hby : i.bytes = bytes) (hzs : z.cells.size = size) (hsz : 0 < size)
  (v : Value) (n : Nat) (xs : List Value) (hs : a.eval s = v) (hown : w.ownsRow base e size v n xs)
  (ad : Addr) (m c : Nat) (news : List Value) (hx : a.eval x = .slice (some ad) m c) (hl : news.length = m * size) (hnews : ∀ j u, news[j]? = some u -> w.cell? (ad.add j) = some u) (h1 : ∀ u ∈ news, u.oneCell' = true)
  (h63 : n + m <= maxLen) (hbytes : (n + m) * bytes <= 140737488355328) (hbase : base <= w.heap.size)
  (h : ∀ va vc w', w'.ownsRow base e size (.slice va (n + m) vc) (n + m) (xs ++ news) -> w.grownBy w' v.ownBlock -> ((Value.slice va (n + m) vc).ownBlock = v.ownBlock \/ (Value.slice va (n + m) vc).ownBlock = some w.heap.size) -> wpList P ops Q rest (a.put o.dst (.slice va (n + m) vc)) w') : wpList P ops Q (o :: rest) a w :=
 wpList_plain hgd fun _ hK => gH s x t ho base e i z size bytes ht hi hz hsize hby hzs hsz v n xs hs hown ad m c news hx hl hnews h1 h63 hbytes hbase fun va vc w' h2 h3 h4 => hK _ _ (h va vc w' h2 h3 h4)
def jA : PanicEntry := { v := .iface 31 (.int .i64 10), recovered := false }
theorem fS (R : Nat) (b : Bool) (w : World) :
  Calls Tryz.prog 128 #[.pointer (some ⟨R, 0, none⟩), .bool b] w fun e w' => w = w' /\ ((b = true /\ e = .returned (.tuple #[])) \/ (b = false /\ e = .panicked [jA])) := by
 go_enter Tryz.func128, Tryz.ntmps128
 cases b
 ·go_wp2
  exact ⟨rfl, rfl, rfl⟩
 ·go_wp2
  refine bodyPost_end (by simp [results, Tryz.results128, go_sem]; try rfl) rfl ?_
  exact ⟨rfl, rfl⟩
theorem wq (W : World) (a : Option Addr) (m c n : Nat) (l : List UInt8) (h : Sl 1 ai W a m l) (hn : n <= m) (hc : m <= c) :
  ∃ a', (Instr.slice 40 (.slice a m c) none (some (.int .i64 n)) (some (.int .i64 n))).run Tryz.prog W = .ok (.slice a' n n) W /\ Sl 1 ai W a' n (l.take n) /\ (∀ q, a' = some q -> a = some q) := by
 have h0 : (0 : Int) <= (n : Int) := by omega
 have h1 : (n : Int) <= (c : Int) := by omega
 have h2 : (n : Int) <= (n : Int) := by omega
 have hl : (l.take n).length = n := by rw [List.length_take, h.1]; omega
 rcases h.2 with hz | ⟨b, off, rfl, hcell⟩
 ·have : n = 0 := by omega
  subst this
  refine ⟨a, ?_, ⟨hl, .inl rfl⟩, fun _ h => h⟩
  go_simp
  try rfl
 ·refine ⟨some ⟨b, off, none⟩, ?_, ⟨hl, .inr ⟨b, off, rfl, fun i x hx => ?_⟩⟩, fun _ h => h⟩
  ·go_simp
   try (split <;> simp [Addr.add])
  ·rw [List.getElem?_take] at hx
   split at hx
   ·exact hcell i x hx
   ·cases hx
theorem wu (W : World) (a : Option Addr) (m c n : Nat) (l : List UInt8) (h : Sl 1 ai W a m l) (hn : n <= m) (hc : m <= c) :
  ∃ a', (Instr.slice 40 (.slice a m c) (some (.int .i64 n)) none none).run Tryz.prog W = .ok (.slice a' (m - n) (c - n)) W /\ Sl 1 ai W a' (m - n) (l.drop n) /\ (∀ q, a' = some q -> ∃ p, a = some p /\ p.block = q.block) := by
 have h0 : (0 : Int) <= (n : Int) := by omega
 have h1 : (n : Int) <= (m : Int) := by omega
 have hl : (l.drop n).length = m - n := by rw [List.length_drop, h.1]
 by_cases hcn : c = n
 ·refine ⟨a, ?_, ⟨hl, .inl (by omega)⟩, fun q hq => ⟨q, hq, rfl⟩⟩
  subst hcn
  have hm : m = c := by omega
  subst hm
  go_simp
  try rfl
 ·rcases h.2 with hz | ⟨b, off, rfl, hcell⟩
  ·have : n = 0 := by omega
   subst this
   refine ⟨a.map (·.add (0 * 1)), ?_, ⟨hl, .inl (by omega)⟩, fun q hq => ?_⟩
   rotate_left
   ·cases a with
    | none => cases hq
    | some p => cases hq; exact ⟨p, rfl, by unfold Addr.add; split <;> rfl⟩
   have hcn' : ¬ c = 0 := hcn
   go_simp
   try rfl
  ·refine ⟨some ⟨b, off + n, none⟩, ?_, ⟨hl, .inr ⟨b, off + n, rfl, fun i x hx => ?_⟩⟩, fun q hq => by cases hq; exact ⟨_, rfl, rfl⟩⟩
   ·go_simp
    try simp [Addr.add]
   ·rw [List.getElem?_drop] at hx
    obtain ⟨vs, h3, h4, h5⟩ := hcell (n + i) x hx
    refine ⟨vs, h3, h4, fun j v hv => ?_⟩
    have := h5 j v hv
    simpa [Nat.add_assoc, Nat.mul_one] using this
theorem yJ {o : Oper} {act : Act} {W : World} (p q r : Operand) (ho : o.op = .slice 40 p none (some q) (some r)) {a a' : Option Addr} {m c n : Nat} (hp : act.eval p = .slice a m c) (hq : act.eval q = .int .i64 n) (hr : act.eval r = .int .i64 n)
  (h : (Instr.slice 40 (.slice a m c) none (some (.int .i64 n)) (some (.int .i64 n))).run Tryz.prog W = .ok (.slice a' n n) W) : (execOp act.eval o).run Tryz.prog W = .ok (.value (.slice a' n n)) W := by
 unfold execOp
 simp only [ho, hp, hq, hr, Option.map_some, Option.map_none]
 go_simp
 try simp [h]
theorem yK {o : Oper} {act : Act} {W : World} (p q : Operand) (ho : o.op = .slice 40 p (some q) none none) {a a' : Option Addr} {m c n : Nat} (hp : act.eval p = .slice a m c) (hq : act.eval q = .int .i64 n)
  (h : (Instr.slice 40 (.slice a m c) (some (.int .i64 n)) none none).run Tryz.prog W = .ok (.slice a' (m - n) (c - n)) W) : (execOp act.eval o).run Tryz.prog W = .ok (.value (.slice a' (m - n) (c - n))) W := by
 unfold execOp
 simp only [ho, hp, hq, Option.map_some, Option.map_none]
 go_simp
 try simp [h]
theorem aG {P : Program} {ops : Array Oper} {rest : List Oper} {o : Oper} {a : Act} {w w' : World} {Q : Exit -> Act -> World -> Prop} (v : Value) (hw : Region.wanted o (yielded ops a.tmps) = true) (hr : (execOp a.eval o).run P w = .ok (.value v) w') (h : wpList P ops Q rest (a.put o.dst v) w') : wpList P ops Q (o :: rest) a w := by
 unfold wpList
 rw [if_pos hw]
 refine .inl ?_
 unfold Oper.wp
 rw [hr, Oper.upon_value]
 exact h
theorem pj (R n : Nat) (l : List UInt8) (w : World) (hn : n <= 1000000000) (h : ce w R l) :
  Calls Tryz.prog 142 #[.pointer (some ⟨R, 0, none⟩), .int .i64 n] w fun e w' => az R w w' /\ ((n <= l.length /\ (∃ a, e = .returned (.slice a n n) /\ Sl 1 ai w' a n (l.take n)) /\ ce w' R (l.drop n)) \/ (l.length < n /\ e = .panicked [jA])) := by
 obtain ⟨a, m, c, hr, hmc, hs, hol⟩ := h
 have HOL := aa hol
 have hml := hs.1
 have HS := aa hs
 have HR := aa hr
 have f0 : w.cell? ⟨R, 0, none⟩ = some (.slice a m c) := by have := ac.cell hr 0; simpa using this
 have z0 : w.frozen? ⟨R, 0, none⟩ = false := by unfold ac at hr; simp [World.frozen?, hr]
 have HW := aa (fS R (decide (n <= m)) w)
 have HN := aa hn
 clear hs hr hn hol
 go_enter Tryz.func142, Tryz.ntmps142
 by_cases hnm : n <= m
 ·have g1 : (n : Int) <= (m : Int) := by omega
  have HWT := HW.out
  rw [decide_eq_true hnm] at HWT
  have HWT := aa HWT
  obtain ⟨a1, hr1, hs1, ha1⟩ := wq w a m c n l HS.out hnm hmc
  obtain ⟨a2, hr2, hs2, hb2⟩ := wu w a m c n l HS.out hnm hmc
  have HR1 := aa hr1
  have HR2 := aa hr2
  have HS1 := aa hs1
  have HS2 := aa hs2
  have HB2 := aa hb2
  have HA1 := aa ha1
  have HNM := aa hnm
  have HMC := aa hmc
  have HML := aa hml
  clear HW hr1 hr2 hs1 hs2 hnm hmc hml hb2 ha1
  go_wp2_with fail
  refine HWT.out.mono ?_
  rintro e w1 ⟨rfl, (⟨_, rfl⟩ | ⟨hb, _⟩)⟩
  ·clear g1 HWT
   go_wp2_with (first
    | (refine aG (.slice a1 n n) rfl (yJ (.tmp 18) (.tmp 19) (.tmp 20) rfl rfl rfl rfl HR1.out) ?_; simp only [Act.put, zA, zB, zC])
    | (refine aG (.slice a2 (m - n) (c - n)) rfl (yK (.tmp 26) (.tmp 27) rfl rfl rfl HR2.out) ?_; simp only [Act.put, zA, zB, zC]))
   go_ret
   have hm : az R w (w.setCell ⟨R, 0, none⟩ (.slice a2 (m - n) (c - n))) := (az.refl R w).setCell rfl _
   have hold : ∀ k, k < R -> (w.setCell ⟨R, 0, none⟩ (.slice a2 (m - n) (c - n))).heap[k]? = w.heap[k]? := fun k hk => hm.block k (by have := (HR.out).lt; omega) (by omega)
   have h0m : m = 0 \/ ∀ ad, a2 = some ad -> ad.block < R := by
    rcases HOL.out with h9 | h9
    ·exact .inl h9
    ·refine .inr fun ad had => ?_
     obtain ⟨q, hq1, hq2⟩ := HB2.out ad had
     rw [<- hq2]
     exact h9 q hq1
   refine ⟨hm, .inl ⟨by have := HNM.out; have := HML.out; omega, ⟨a1, rfl, ?_⟩, a2, m - n, c - n, ?_, by have := HMC.out; omega, Sl.older HS2.out (by rcases h0m with h9 | h9; exact .inl (by omega); exact .inr h9) hold, by rcases h0m with h9 | h9; exact .inl (by omega); exact .inr h9⟩⟩
   ·refine Sl.older HS1.out ?_ hold
    rcases HOL.out with h9 | h9
    ·exact .inl (by have := HNM.out; omega)
    ·exact .inr (fun ad had => h9 ad (HA1.out ad had))
   have := ax HR.out 0 (.slice a2 (m - n) (c - n))
   simpa [ac] using this
  ·cases hb
 ·have g1 : ¬ (n : Int) <= (m : Int) := by omega
  have HWT := HW.out
  rw [decide_eq_false hnm] at HWT
  have HWT := aa HWT
  have HX : Hid (l.length < n) := by show _ < _; omega
  clear HW hnm hmc hml
  go_wp2_with fail
  refine HWT.out.mono ?_
  rintro e w1 ⟨rfl, (⟨hb, _⟩ | ⟨_, rfl⟩)⟩
  ·cases hb
  ·go_wp2_with fail
   exact ⟨rfl, az.refl _ _, .inr ⟨HX.out, rfl⟩⟩
def dW {α : Type} (m : Nat) (R : World -> List Value -> α -> Prop) (w : World) (vs : List Value) (xs : List α) : Prop := vs.length = xs.length * m /\ ∀ i x, xs[i]? = some x -> ∃ L : List Value, L.length = m /\ R w L x /\ ∀ j v, L[j]? = some v -> vs[i * m + j]? = some v
theorem dW.below {α : Type} {m : Nat} {R : World -> List Value -> α -> Prop} (hR : ju R) {w w' : World} {vs : List Value} {xs : List α} (h : dW m R w vs xs) (hb : Below w.heap.size w w') : dW m R w' vs xs :=
 ⟨h.1, fun i x hx => by obtain ⟨L, h1, h2, h3⟩ := h.2 i x hx; exact ⟨L, h1, hR _ _ _ _ hb h2, h3⟩⟩
theorem dW.snoc {α : Type} {m : Nat} {R : World -> List Value -> α -> Prop} {w : World} {vs L : List Value} {xs : List α} {x : α} (h : dW m R w vs xs) (hl : L.length = m) (hr : R w L x) : dW m R w (vs ++ L) (xs ++ [x]) := by
 refine ⟨by simp [h.1, hl, Nat.add_mul], fun i y hy => ?_⟩
 rcases Nat.lt_or_ge i xs.length with hi | hi
 ·rw [List.getElem?_append_left hi] at hy
  obtain ⟨M, h1, h2, h3⟩ := h.2 i y hy
  refine ⟨M, h1, h2, fun j v hv => ?_⟩
  have hj := (List.getElem?_eq_some_iff.1 hv).1
  have h4 : i * m + m <= xs.length * m := by
   have := Nat.mul_le_mul_right m (show i + 1 <= xs.length by omega)
   rwa [Nat.add_mul, Nat.one_mul] at this
  rw [List.getElem?_append_left (by rw [h.1]; omega)]
  exact h3 j v hv
 ·rw [List.getElem?_append_right hi] at hy
  obtain rfl : i = xs.length := by
   rcases Nat.eq_zero_or_pos (i - xs.length) with h0 | h0
   ·omega
   ·rw [List.getElem?_eq_none (by simp; omega)] at hy; cases hy
  rw [Nat.sub_self] at hy
  simp only [List.getElem?_cons_zero, Option.some.injEq] at hy
  subst hy
  refine ⟨L, hl, hr, fun j v hv => ?_⟩
  rw [List.getElem?_append_right (by rw [h.1]; omega), h.1, Nat.add_sub_cancel_left]
  exact hv
theorem Sl.flat {α : Type} {m : Nat} (hm : 0 < m) {R : World -> List Value -> α -> Prop} (h1 : ∀ w L x, R w L x -> ∀ v ∈ L, v.oneCell' = true) {w : World} {a : Option Addr} {n : Nat} {xs : List α} (h : Sl m R w a n xs) :
  ∃ vs : List Value, vs.length = n * m /\ (a = none -> n = 0) /\ (∀ ad, a = some ad -> ∀ j u, vs[j]? = some u -> w.cell? (ad.add j) = some u) /\ (∀ u ∈ vs, u.oneCell' = true) /\ dW m R w vs xs := by
 obtain ⟨hl, h⟩ := h
 rcases h with rfl | ⟨b, off, rfl, hc⟩
 ·obtain rfl : xs = [] := List.eq_nil_of_length_eq_zero hl
  exact ⟨[], by simp, fun _ => rfl, fun _ _ j u hu => by simp at hu, fun u hu => by simp at hu, by simp, fun i x hx => by simp at hx⟩
 ·have hg : ∀ k, k < n * m -> ∃ i x L, xs[i]? = some x /\ L.length = m /\ R w L x /\ k = i * m + k % m /\ (∀ j v, L[j]? = some v -> w.cell? ⟨b, off + i * m + j, none⟩ = some v) := fun k hk => by
   have hi : k / m < n := (Nat.div_lt_iff_lt_mul hm).2 hk
   obtain ⟨x, hx⟩ : ∃ x, xs[k / m]? = some x := ⟨_, List.getElem?_eq_getElem (by rw [hl]; exact hi)⟩
   obtain ⟨L, g1, g2, g3⟩ := hc _ x hx
   exact ⟨k / m, x, L, hx, g1, g2, by rw [Nat.mul_comm]; exact (Nat.div_add_mod k m).symm, g3⟩
  have hv : ∀ k, k < n * m -> ∃ v, w.cell? ⟨b, off + k, none⟩ = some v /\ v.oneCell' = true := fun k hk => by
   obtain ⟨i, x, L, g0, g1, g2, g3, g4⟩ := hg k hk
   have hlt : k % m < L.length := by rw [g1]; exact Nat.mod_lt _ hm
   refine ⟨L[k % m], ?_, h1 _ _ _ g2 _ (List.getElem_mem hlt)⟩
   rw [show off + k = off + i * m + k % m by omega]
   exact g4 _ _ (List.getElem?_eq_getElem hlt)
  have hget : ∀ (k : Nat) (u : Value), ((List.range (n * m)).map fun k => (w.cell? ⟨b, off + k, none⟩).getD (.bool false))[k]? = some u -> w.cell? ⟨b, off + k, none⟩ = some u /\ u.oneCell' = true := fun k u hu => by
   have hk : k < n * m := by have := (List.getElem?_eq_some_iff.1 hu).1; simpa using this
   obtain ⟨v, h2, h3⟩ := hv k hk
   rw [List.getElem?_map, List.getElem?_range hk] at hu
   simp only [Option.map_some, h2, Option.getD_some, Option.some.injEq] at hu
   subst hu
   exact ⟨h2, h3⟩
  refine ⟨(List.range (n * m)).map fun k => (w.cell? ⟨b, off + k, none⟩).getD (.bool false), by simp, fun h => (by cases h), fun ad had j u hu => ?_, fun u hu => ?_, by simp [hl], fun i x hx => ?_⟩
  ·cases had
   rw [Addr.add_lit]
   exact (hget j u hu).1
  ·obtain ⟨k, hk⟩ := List.getElem?_of_mem hu
   exact (hget k u hk).2
  ·obtain ⟨L, g1, g2, g3⟩ := hc i x hx
   refine ⟨L, g1, g2, fun j v hj => ?_⟩
   have hi : i < n := by rw [<- hl]; exact (List.getElem?_eq_some_iff.1 hx).1
   have hjm : j < m := by rw [<- g1]; exact (List.getElem?_eq_some_iff.1 hj).1
   have h4 : i * m + m <= n * m := by
    have := Nat.mul_le_mul_right m (show i + 1 <= n by omega)
    rwa [Nat.add_mul, Nat.one_mul] at this
   rw [List.getElem?_map, List.getElem?_range (by omega)]
   have := g3 j v hj
   simp only [Option.map_some, <- Nat.add_assoc, this, Option.getD_some]
theorem eB {α : Type} {m : Nat} (_hm : 0 < m) {R : World -> List Value -> α -> Prop} {w : World} {base : Nat} {e : TypeId} {a : Option Addr} {n c : Nat} {vs : List Value} (h : w.ownsRow base e m (.slice a n c) n vs) (xs : List α) (hl : xs.length = n)
  (hR : dW m R w vs xs) : n <= c /\ Sl m R w a n xs := by
 rcases h.2 with ⟨h1, rfl⟩ | ⟨g, cap, cur, h1, _, hh, h2, h3, h4, h5⟩
 ·cases h1
  exact ⟨Nat.le_refl _, hl, .inl rfl⟩
 ·simp only [Value.slice.injEq, true_and] at h1
  obtain ⟨rfl, rfl⟩ := h1
  refine ⟨h2, hl, .inr ⟨g, 0, rfl, fun i x hx => ?_⟩⟩
  obtain ⟨L, g1, g2, g3⟩ := hR.2 i x hx
  refine ⟨L, g1, g2, fun j v hv => ?_⟩
  have hu := g3 j v hv
  rw [<- h5, List.getElem?_take] at hu
  split at hu
  ·simpa [World.cell?, hh] using hu
  ·cases hu
theorem iO (w : World) (L : List Value) (x : ar) (h : aq w L x) : ∀ v ∈ L, v.oneCell' = true := by
 obtain ⟨a, n, c, rfl, _⟩ := h
 have := bM x a n c
 simpa using this
theorem ww : ∀ (l : List UInt8), l.length = 32 -> ∃ b0 b1 b2 b3 b4 b5 b6 b7 b8 b9 b10 b11 b12 b13 b14 b15 b16 b17 b18 b19 b20 b21 b22 b23 b24 b25 b26 b27 b28 b29 b30 b31, l = [b0, b1, b2, b3, b4, b5, b6, b7, b8, b9, b10, b11, b12, b13, b14, b15, b16, b17, b18, b19, b20, b21, b22, b23, b24, b25, b26, b27, b28, b29, b30, b31] := by
 intro l h
 match l, h with
 | [b0, b1, b2, b3, b4, b5, b6, b7, b8, b9, b10, b11, b12, b13, b14, b15, b16, b17, b18, b19, b20, b21, b22, b23, b24, b25, b26, b27, b28, b29, b30, b31], _ => exact ⟨_, _, _, _, _, _, _, _, _, _, _, _, _, _, _, _, _, _, _, _, _, _, _, _, _, _, _, _, _, _, _, _, rfl⟩
theorem pk (W : World) (x : ar) (hp : x.prev.length = 32) (a : Option Addr) (n c : Nat) :
  (Instr.build 50 #[(0, .int .i64 x.node), (1, .int .i64 x.no), (2, br x.prev), (3, .slice a n c)]).run Tryz.prog W = .ok (.agg (ah x a n c).toArray) W := by
 obtain ⟨no, nd, p, d⟩ := x
 obtain ⟨b0, b1, b2, b3, b4, b5, b6, b7, b8, b9, b10, b11, b12, b13, b14, b15, b16, b17, b18, b19, b20, b21, b22, b23, b24, b25, b26, b27, b28, b29, b30, b31, rfl⟩ := ww p hp
 exact run_build W 50 _ _ (by kernel_rfl)
theorem dJ {o : Oper} {act : Act} {W : World} (p0 p1 p2 p3 : Operand) (ho : o.op = .build 50 #[(0, p0), (1, p1), (2, p2), (3, p3)]) (x : ar) (hp : x.prev.length = 32) (a : Option Addr) (n c : Nat)
  (h0 : act.eval p0 = .int .i64 x.node) (h1 : act.eval p1 = .int .i64 x.no) (h2 : act.eval p2 = br x.prev) (h3 : act.eval p3 = .slice a n c) : (execOp act.eval o).run Tryz.prog W = .ok (.value (.agg (ah x a n c).toArray)) W := by
 unfold execOp
 simp only [ho, List.map_toArray, List.map_cons, List.map_nil, h0, h1, h2, h3, Sem.run_bind, Sem.run_pure, Result.andThen_ok, pk W x hp a n c]
theorem pl (W : World) (x : ar) (hp : x.prev.length = 32) (a : Option Addr) (n c : Nat) :
  (Instr.buildSlice 30 1 #[(0, .agg (ah x a n c).toArray)]).run Tryz.prog W = .ok (.slice (some ⟨W.heap.size, 0, none⟩) 1 1) (W.alloc (.cells (ah x a n c).toArray 50)) := by
 obtain ⟨no, nd, p, d⟩ := x
 obtain ⟨b0, b1, b2, b3, b4, b5, b6, b7, b8, b9, b10, b11, b12, b13, b14, b15, b16, b17, b18, b19, b20, b21, b22, b23, b24, b25, b26, b27, b28, b29, b30, b31, rfl⟩ := ww p hp
 kernel_rfl
theorem gW {o : Oper} {act : Act} {W : World} (p0 : Operand) (ho : o.op = .buildSlice 30 1 #[(0, p0)]) (x : ar) (hp : x.prev.length = 32) (a : Option Addr) (n c : Nat)
  (h0 : act.eval p0 = .agg (ah x a n c).toArray) : (execOp act.eval o).run Tryz.prog W = .ok (.value (.slice (some ⟨W.heap.size, 0, none⟩) 1 1)) (W.alloc (.cells (ah x a n c).toArray 50)) := by
 unfold execOp
 simp only [ho, List.map_toArray, List.map_cons, List.map_nil, h0, Sem.run_bind, Sem.run_pure, Result.andThen_ok, pl W x hp a n c]
theorem aO {P : Program} {o : Oper} {a : Act} {w w' : World} {K : Act -> World -> Prop} {Q : Exit -> Act -> World -> Prop} (v : Value) (hr : (execOp a.eval o).run P w = .ok (.value v) w') (h : K (a.put o.dst v) w') : o.wp P a w K Q := by
 unfold Oper.wp
 rw [hr, Oper.upon_value]
 exact h
theorem oo {P : Program} (w : World) {o : Oper} {a : Act} {K : Act -> World -> Prop} {Q : Exit -> Act -> World -> Prop}
  (s x : Operand) (t : TypeId) (hop : o.op = Op.call { callee := Callee.builtin Builtin.append, args := #[s, x], argTypes := #[t, t] })
  (e : TypeId) (i : TypeInfo) (z : Value) (size bytes : Nat) (h1 : P.underlying t = some (.slice e)) (h2 : P.info? e = some i) (h3 : i.zero = some z) (h4 : i.size = size) (h5 : i.bytes = bytes) (h6 : z.cells.size = size) (h7 : 0 < size)
  (ao : Option Addr) (n cap : Nat) (olds : List Value) (hs : a.eval s = .slice ao n cap) (hnone : ao = none -> n = 0 /\ cap = 0) (hlo : olds.length = n * size) (holds : ∀ b, ao = some b -> ∀ j u, olds[j]? = some u -> w.cell? (b.add j) = some u)
  (ad : Addr) (m c : Nat) (news : List Value) (hx : a.eval x = .slice (some ad) m c) (hn : news.length = m * size) (hc : ∀ j u, news[j]? = some u -> w.cell? (ad.add j) = some u) (h1c : ∀ u ∈ news, u.oneCell' = true)
  (hfull : cap < n + m) (b1 : n + m <= maxLen) (b2 : (n + m) * bytes <= 140737488355328)
  (hK : ∀ v' w', w'.ownsRow w.heap.size e size v' (n + m) (olds ++ news) -> w.grownBy w' none -> K (a.put o.dst v') w') : o.wp P a w K Q := by
 cases ao with
 | some b =>
  obtain ⟨v', w', hrun, r1, r2⟩ := run_append_arg_grows (P := P) w t o.type e i z size bytes h1 h2 h3 h4 h5 h6 h7 b n cap olds hlo (holds b rfl) ad m c news hn hc hfull b1 b2
  unfold Oper.wp
  simp [execOp, hop, resolve, invoke, builtin, hs, hx, hrun, Result.andThen]
  exact hK v' w' r1 r2
 | none =>
  obtain ⟨rfl, rfl⟩ := hnone rfl
  obtain rfl : olds = [] := List.eq_nil_of_length_eq_zero (by simpa using hlo)
  obtain ⟨v', w', hrun, r1, r2, _⟩ := run_append_own (P := P) w w.heap.size t o.type e i z size bytes h1 h2 h3 h4 h5 h6 h7 (.slice none 0 0) 0 [] (World.ownsRow_nil w _ e size) ad m c news hn hc h1c b1 b2 (Nat.le_refl _)
  unfold Oper.wp
  simp [execOp, hop, resolve, invoke, builtin, hs, hx, hrun, Result.andThen]
  exact hK v' w' r1 r2
structure aR (w : World) where
 wd : World
 below : Below w.heap.size w wd
instance (w : World) : Nonempty (aR w) := ⟨⟨w, Below.refl _ _⟩⟩
theorem eu {P : Program} {id : Nat} {Q : Exit -> Act -> World -> Prop} {a : Act} {w : World} {l : List Oper} (hm : P.follows .mixedOrders = true) (hB : Region.lexB .any l.toArray = true)
  (h : wpQuiet P l.toArray (fun w' => ∃ z : aR w, w' = z.wd) (fun a' => ∀ w', (∃ z : aR w, w' = z.wd) -> Q .normal a' w') l a) : (Code.region id l.toArray true).wp P Q a w :=
 wp_region_quiet (C := fun w' => ∃ z : aR w, w' = z.wd) hm hB ⟨⟨_, (Below.refl _ w).drew⟩, rfl⟩ (by simpa using h)
theorem dC {P : Program} {f : FuncId} {args : Array Value} {w : World} {z : aR w} {v : Value} (h : Calls P f args z.wd fun e w' => e = .returned v /\ Below z.wd.heap.size z.wd w') :
  Calls P f args z.wd fun e w'' => e = .returned v /\ ∃ y : aR w, w'' = y.wd := h.mono fun _ w' ⟨he, hb⟩ => ⟨he, ⟨w', z.below.trans (hb.mono z.below.size)⟩, rfl⟩
theorem ca {P : Program} {f : FuncId} {args : Array Value} {w : World} {z : aR w} {v : Value} (h : Calls P f args z.wd fun e w' => e = .returned v /\ z.wd = w') :
  Calls P f args z.wd fun e w'' => e = .returned v /\ ∃ y : aR w, w'' = y.wd := h.mono fun _ _ ⟨he, hb⟩ => ⟨he, z, hb.symm⟩
section
variable {P : Program} {ops : Array Oper} {w : World} {K : Act -> Prop} {a : Act} {o : Oper} {rest : List Oper}
theorem nv (v : Value) (hw : Region.wanted o (yielded ops a.tmps) = true) (hr : ∀ z : aR w, (execOp a.eval o).run P z.wd = .ok (.value v) z.wd) (h : wpQuiet P ops (fun w' => ∃ z : aR w, w' = z.wd) K rest (a.put o.dst v)) : wpQuiet P ops (fun w' => ∃ z : aR w, w' = z.wd) K (o :: rest) a := by
 refine wpQuiet_step fun K' hK => ?_
 rw [if_pos hw]
 refine ⟨v, fun W hW => ?_, hK _ h⟩
 unfold Oper.quietAt
 obtain ⟨z, rfl⟩ := hW
 rw [hr z]
 exact ⟨rfl, rfl⟩
theorem kS (v : Value) (f : FuncId) (args : Array Value) (hw : Region.wanted o (yielded ops a.tmps) = true) (hr : ∀ W, (execOp a.eval o).run P W = .ok (.enter f args) W)
  (hc : ∀ z : aR w, Calls P f args z.wd fun e W' => e = .returned v /\ Below z.wd.heap.size z.wd W') (h : wpQuiet P ops (fun w' => ∃ z : aR w, w' = z.wd) K rest (a.put o.dst v)) : wpQuiet P ops (fun w' => ∃ z : aR w, w' = z.wd) K (o :: rest) a := by
 refine wpQuiet_step fun K' hK => ?_
 rw [if_pos hw]
 refine ⟨v, fun W hW => ?_, hK _ h⟩
 unfold Oper.quietAt
 obtain ⟨z, rfl⟩ := hW
 rw [hr z.wd]
 exact ⟨rfl, dC (hc z)⟩
theorem yN (hw : Region.wanted o (yielded ops a.tmps) = false) (h : wpQuiet P ops (fun w' => ∃ z : aR w, w' = z.wd) K rest (a.put o.dst undef)) : wpQuiet P ops (fun w' => ∃ z : aR w, w' = z.wd) K (o :: rest) a := by
 refine wpQuiet_step fun K' hK => ?_
 rw [if_neg (by rw [hw]; simp)]
 exact hK _ h
end
section
variable {P : Program} {ops : Array Oper} {w : World} {K : Act -> Prop} {rest : List Oper} {o : Oper} {a : Act}
theorem fW (v : Value) (hr : ∀ z : aR w, (execOp a.eval o).run P z.wd = .ok (.value v) z.wd) (h : wpQuiet P ops (fun w' => ∃ z : aR w, w' = z.wd) K rest (a.put o.dst v)) (hw : Region.wanted o (yielded ops a.tmps) = true := by kernel_rfl) : wpQuiet P ops (fun w' => ∃ z : aR w, w' = z.wd) K (o :: rest) a := nv v hw hr h
theorem eQ (v : Value) (h : wpQuiet P ops (fun w' => ∃ z : aR w, w' = z.wd) K rest (a.put o.dst v)) (hw : Region.wanted o (yielded ops a.tmps) = true := by kernel_rfl) (hr : ∀ z : aR w, (execOp a.eval o).run P z.wd = .ok (.value v) z.wd := by intro z; kernel_rfl) : wpQuiet P ops (fun w' => ∃ z : aR w, w' = z.wd) K (o :: rest) a := nv v hw hr h
end
end Go.Proofs.YtmflnpdmlfmcpaaGreatDoor.Dr
