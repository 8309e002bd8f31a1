/- Joined texts. -/
import Derived.Test.YtmflnpdmlfmcpaaGreatDoorJw02
import Derived.Test.YtmflnpdmlfmcpaaGreatDoorJw03
import Derived.Deep.DeepCutAuto
set_option maxRecDepth 100000
set_option maxHeartbeats 1000000
namespace Go.Proofs.YtmflnpdmlfmcpaaGreatDoor
open Go.RowKit
variable {Nz : Nat}
def i6 (Nz : Nat) (e : Ending) (w : World) (d : aj) (n : Int) : Prop := ∃ a1 n1 c1 a2 n2 c2, e = .returned (.tuple #[.agg #[.slice a1 n1 c1, .slice a2 n2 c2, .int .i64 d.left, .bool d.stopped], .int .i64 n]) /\ bF Nz w a1 n1 c1 a2 n2 c2 d
theorem ly {e : Ending} {w : World} {p : aj × Int} {d : aj} {n : Int} (h : ∃ v, e = .returned (.tuple #[v, .int .i64 p.2]) /\ eJ Nz w v p.1) (hd : p = (d, n)) : i6 Nz e w d n := by
 subst hd
 obtain ⟨v, rfl, a1, n1, c1, a2, n2, c2, rfl, hR⟩ := h
 exact ⟨_, _, _, _, _, _, rfl, hR⟩
theorem Af {a1 : Option Addr} {n1 c1 : Nat} {a2 : Option Addr} {n2 c2 : Nat} {d d' : aj} {i n : Int} {ba : Option Addr} {bn bc : Nat} {b : List UInt8} {w : World} (h : bF Nz w a1 n1 c1 a2 n2 c2 d) (hb : Sl 1 ai w ba bn b) (hbm : bn <= maxLen) (hd : d.write i b = (d', n)) :
  Calls Tryz.prog 49 #[.agg #[.slice a1 n1 c1, .slice a2 n2 c2, .int .i64 d.left, .bool d.stopped], .int .i64 i, .slice ba bn bc] w fun e w' => i6 Nz e w' d' n /\ Below w.heap.size w w' :=
 (vL a1 n1 c1 a2 n2 c2 d i ba bn bc b w h hb hbm).mono fun _ _ ⟨h1, h2⟩ => ⟨ly h1 hd, h2⟩
theorem Br {a1 : Option Addr} {n1 c1 : Nat} {a2 : Option Addr} {n2 c2 : Nat} {d d' : aj} {n : Int} {w : World} (h : bF Nz w a1 n1 c1 a2 n2 c2 d) (hd : d.sync = (d', n)) :
  Calls Tryz.prog 51 #[.agg #[.slice a1 n1 c1, .slice a2 n2 c2, .int .i64 d.left, .bool d.stopped]] w fun e w' => i6 Nz e w' d' n /\ Below w.heap.size w w' :=
 (yg a1 n1 c1 a2 n2 c2 d w h).mono fun _ _ ⟨h1, h2⟩ => ⟨ly h1 hd, h2⟩
theorem z8 (k : Nat) (w : World) (hk1 : 1 <= k) (hk : k <= 60) : Calls Tryz.prog 16 #[.int .i64 k] w fun e w' => i6 Nz e w' (aj.fresh k) 0 /\ Below w.heap.size w w' :=
 (Bq k w hk1 hk).mono fun _ _ ⟨h1, h2⟩ => ⟨ly (p := (aj.fresh k, 0)) h1 rfl, h2⟩
end Go.Proofs.YtmflnpdmlfmcpaaGreatDoor
namespace Go.Proofs.YtmflnpdmlfmcpaaGreatDoor
open Go.RowKit
variable {Nz : Nat}
def bd (n : Nat) : Nat := max 1 ((n + 111) / 112)
def au (l : List (List UInt8)) : Nat := (l.map fun b => bd b.length).sum
theorem kj (n : Nat) : bd n <= n + 1 := by unfold bd; omega
theorem iK (l : List (List UInt8)) (k : Nat) (b : List UInt8) (h : l[k]? = some b) : au (l.take (k + 1)) = au (l.take k) + bd b.length := by
 unfold au
 rw [cp l k b h]
 simp
theorem qT (l : List (List UInt8)) (M : Nat) (h : ∀ b ∈ l, b.length <= M) : au l <= l.length * (M + 1) := by
 unfold au
 induction l with
 | nil => simp
 | cons b l ih =>
  have h1 := h b List.mem_cons_self
  have h2 := ih (fun x hx => h x (List.mem_cons_of_mem _ hx))
  have h3 := kj b.length
  simp only [List.map_cons, List.sum_cons, List.length_cons]
  rw [Nat.add_mul]
  omega
theorem jU (a : Option Addr) (n c : Nat) (w : World) (hn : n <= 100000) :
  Calls Tryz.prog 41 #[.slice a n c] w fun e w' => e = .returned (.int .i64 (bd n)) /\ w = w' := by
 have h1 : IntKind.i64.wrap ((n : Int) + 112) = (n : Int) + 112 := by rw [IntKind.wrap_i64]; omega
 have h2 : IntKind.i64.wrap ((n : Int) + 112 - 1) = (n : Int) + 111 := by rw [IntKind.wrap_i64]; omega
 go_enter Tryz.func41, Tryz.ntmps41
 go_wp2
 all_goals
  go_ret
  exact ⟨bY (by unfold bd; omega), rfl⟩
theorem lz (n : Nat) (w : World) (hn : n <= 100000) :
  Calls Tryz.prog 68 #[.int .i64 n] w fun e w' => e = .returned (.int .i64 (bd n)) /\ w = w' := by
 have h1 : IntKind.i64.wrap ((n : Int) + 112) = (n : Int) + 112 := by rw [IntKind.wrap_i64]; omega
 have h2 : IntKind.i64.wrap ((n : Int) + 112 - 1) = (n : Int) + 111 := by rw [IntKind.wrap_i64]; omega
 go_enter Tryz.func68, Tryz.ntmps68
 go_wp2
 all_goals
  go_ret
  exact ⟨bY (by unfold bd; omega), rfl⟩
theorem ni (a : Option Addr) (n c : Nat) (l : List (List UInt8)) (w : World) (hn : n <= 5000) (hl : ∀ b ∈ l, b.length <= 100000) (h : Sl 1 (aN Nz) w a n l) :
  Calls Tryz.prog 42 #[.slice a n c] w fun e w' => e = .returned (.int .i64 (au l)) /\ w = w' := by
 have HL := aa h.len
 have HB := aa hl
 rcases h.secs with h0 | ⟨b, off, rfl, hc⟩
 ·obtain rfl := h0
  clear h
  go_enter Tryz.func42, Tryz.ntmps42
  go_wp2
  refine wp_loop_rounds 1 ?_
  rw [rounds_succ]
  go_wp2
  go_ret
  exact ⟨bY (by rw [List.eq_nil_of_length_eq_zero HL.out]; rfl), rfl⟩
 clear h hl
 go_enter Tryz.func42, Tryz.ntmps42
 go_wp2
 go_loop [2, 7] (fun z i => ∃ k : Nat, k <= n /\ i = .int .i64 k /\ z = .int .i64 (au (l.take k))) (fun _ i => n - (intOf i).toNat)
 case atStart => exact ⟨0, Nat.zero_le _, rfl, rfl⟩
 case round =>
  obtain ⟨k, hk, rfl, rfl⟩ := hrel
  by_cases hlt : k < n
  ·obtain ⟨x, hx⟩ := av HL.out hlt
   obtain ⟨xa, xn, xc, _, _, hxs, hcell⟩ := hc k x hx
   have hxl := hxs.len
   have hx1 : xn <= 100000 := by rw [<- hxl]; exact HB.out x (List.mem_of_getElem? hx)
   have hu := iK l k x hx
   have hul := qT (l.take k) 100000 (fun b hb => HB.out b (List.mem_of_mem_take hb))
   have hll : (l.take k).length <= 5000 := by simp; omega
   have hub : au (l.take k) <= 500005000 := Nat.le_trans hul (by have := Nat.mul_le_mul_right 100001 hll; omega)
   have hse := kj xn
   rw [hxl] at hu
   obtain ⟨u, hu0⟩ := zg (au (l.take k))
   obtain ⟨sx, hs0⟩ := zg (bd xn)
   rw [<- hu0, <- hs0] at hu
   rw [<- hu0] at hub ⊢
   rw [<- hs0] at hse
   have HU := aa hu
   have hw : IntKind.i64.wrap ((u : Int) + (sx : Int)) = ((u + sx : Nat) : Int) := by rw [IntKind.wrap_i64]; omega
   have HSX : Hid (∀ W, Calls Tryz.prog 41 #[.slice xa xn xc] W fun e w' => e = .returned (.int .i64 sx) /\ W = w') := fun W => by rw [hs0]; exact jU xa xn xc W hx1
   clear hc hx hxs hxl hu hul hll hu0 hs0
   go_wp2_with (go_at_call 41; refine (HSX.out _).mono ?_; rintro e w' ⟨rfl, rfl⟩)
   go_round
   case rel => exact ⟨k + 1, by omega, by go_num, by rw [HU.out]; first | rfl | (congr 1; omega)⟩
   case measure => simp [intOf]; omega
  ·obtain rfl : k = n := by omega
   clear hc
   go_wp2
   go_ret
   exact ⟨bY (by rw [List.take_of_length_le (by have := HL.out; omega)]), rfl⟩
theorem pJ (a : Option Addr) (n c : Nat) (l : List (List UInt8)) (w : World) (hn : n <= 5000) (hl : ∀ b ∈ l, b.length <= 100000) (h : Sl 1 (aN Nz) w a n l) :
  Calls Tryz.prog 66 #[.slice a n c] w fun e w' => e = .returned (.int .i64 (au l)) /\ w = w' := by
 have HL := aa h.len
 have HB := aa hl
 rcases h.secs with h0 | ⟨b, off, rfl, hc⟩
 ·obtain rfl := h0
  clear h
  go_enter Tryz.func66, Tryz.ntmps66
  go_wp2
  refine wp_loop_rounds 1 ?_
  rw [rounds_succ]
  go_wp2
  go_ret
  exact ⟨bY (by rw [List.eq_nil_of_length_eq_zero HL.out]; rfl), rfl⟩
 clear h hl
 go_enter Tryz.func66, Tryz.ntmps66
 go_wp2
 go_loop [3, 4] (fun z i => ∃ k : Nat, k <= n /\ i = .int .i64 k /\ z = .int .i64 (au (l.take k))) (fun _ i => n - (intOf i).toNat)
 case atStart => exact ⟨0, Nat.zero_le _, rfl, rfl⟩
 case round =>
  obtain ⟨k, hk, rfl, rfl⟩ := hrel
  by_cases hlt : k < n
  ·obtain ⟨x, hx⟩ := av HL.out hlt
   obtain ⟨xa, xn, xc, _, _, hxs, hcell⟩ := hc k x hx
   have hxl := hxs.len
   have hx1 : xn <= 100000 := by rw [<- hxl]; exact HB.out x (List.mem_of_getElem? hx)
   have hu := iK l k x hx
   have hul := qT (l.take k) 100000 (fun b hb => HB.out b (List.mem_of_mem_take hb))
   have hll : (l.take k).length <= 5000 := by simp; omega
   have hub : au (l.take k) <= 500005000 := Nat.le_trans hul (by have := Nat.mul_le_mul_right 100001 hll; omega)
   have hse := kj xn
   rw [hxl] at hu
   obtain ⟨u, hu0⟩ := zg (au (l.take k))
   obtain ⟨sx, hs0⟩ := zg (bd xn)
   rw [<- hu0, <- hs0] at hu
   rw [<- hu0] at hub ⊢
   rw [<- hs0] at hse
   have HU := aa hu
   have hw : IntKind.i64.wrap ((u : Int) + (sx : Int)) = ((u + sx : Nat) : Int) := by rw [IntKind.wrap_i64]; omega
   have HSX : Hid (∀ W, Calls Tryz.prog 68 #[.int .i64 xn] W fun e w' => e = .returned (.int .i64 sx) /\ W = w') := fun W => by rw [hs0]; exact lz xn W hx1
   clear hc hx hxs hxl hu hul hll hu0 hs0
   go_wp2_with (go_at_call 68; refine (HSX.out _).mono ?_; rintro e w' ⟨rfl, rfl⟩)
   go_round
   case rel => exact ⟨k + 1, by omega, by go_num, by rw [HU.out]; first | rfl | (congr 1; omega)⟩
   case measure => simp [intOf]; omega
  ·obtain rfl : k = n := by omega
   clear hc
   go_wp2
   go_ret
   exact ⟨bY (by rw [List.take_of_length_le (by have := HL.out; omega)]), rfl⟩
end Go.Proofs.YtmflnpdmlfmcpaaGreatDoor
