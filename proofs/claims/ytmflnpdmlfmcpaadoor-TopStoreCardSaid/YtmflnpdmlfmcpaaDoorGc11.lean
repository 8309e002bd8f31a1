/- The texts ChHa of this seat, joined. No condition beyond what each theorem states. -/
import Derived.Test.YtmflnpdmlfmcpaaDoorGc02
/- The contract of bytes.Clone. Plain theorem; no condition beyond the bounds that each states. -/
namespace Go.Proofs.YtmflnpdmlfmcpaaDoor.Dr
open Go.RowKit
theorem clone_any (a : Option Addr) (n c : Nat) (b : List UInt8) (w : World) (hn : n ≤ 1000000) (h : Sl 1 IsByte w a n b) :
    Calls Tryd.prog 51 #[.slice a n c] w fun e w' => (∃ va vc, e = .returned (.slice va n vc) ∧ w'.ownsRow w.heap.size 5 1 (.slice va n vc) n (byteVals b)) ∧ Below w.heap.size w w' := by
  obtain ⟨hl, h0, hc, h1⟩ := bytes_flat h
  have HL := hide h.len
  clear h
  cases a with
  | none =>
    obtain rfl := h0 rfl
    have he : ∀ w : World, (binOp .eql 30 (.slice none 0 c) (.slice none 0 0)).run Tryd.prog w = .ok (.bool true) w := fun _ => by kernel_rfl
    clear hl h0 hc h1
    go_enter Tryd.func51, Tryd.ntmps51
    go_wp2
    go_ret
    exact ⟨⟨_, _, rfl, by rw [List.eq_nil_of_length_eq_zero HL.out]; exact World.ownsRow_nil _ _ _ _⟩, Below.refl _ _⟩
  | some ad =>
    have he : ∀ w : World, (binOp .eql 30 (.slice (some ad) n c) (.slice none 0 0)).run Tryd.prog w = .ok (.bool false) w := fun _ => by kernel_rfl
    obtain ⟨i0, hi, hz0, hz1, hz2⟩ := info_parts infoB
    obtain ⟨ws, hws⟩ : ∃ ws, ws = byteVals b := ⟨_, rfl⟩
    rw [← hws] at hl hc h1 ⊢
    have HW := hide hl
    have H1 := hide h1
    have hc1 : Hid (∀ x, ∀ ad', some ad = some ad' → ∀ j u, ws[j]? = some u → (w.alloc x).cell? (ad'.add j) = some u) := fun x ad' e j u hu => by cases e; exact below_cell ((Below.refl _ _).alloc (Nat.le_refl _) _) (hc ad rfl j u hu)
    clear hc h0 hws hl h1
    go_enter Tryd.func51, Tryd.ntmps51
    go_wp2_with (at_builtin; refine wpList_append_own_sl rfl (.tmp 5) (.tmp 6) 30 rfl w.heap.size 5 i0 (.int .u8 0) 1 1 Tryd.underlying30 hi hz0 hz1 hz2 rfl (by decide) (.slice (some ⟨w.heap.size, 0, none⟩) 0 0) 0 [] rfl ?c0 (some ad) n c ws rfl HW.out (fun h => by cases h) (hc1.out _) H1.out ?c3 ?c4 ?c5 ?_; rotate_right; intro va vc w2 hown hgrow)
    case c0 => exact ⟨rfl, .inr ⟨w.heap.size, 0, #[], rfl, Nat.le_refl _, heap_new _ rfl, Nat.le_refl _, by unfold maxLen; omega, rfl, rfl⟩⟩
    case c3 => unfold maxLen; omega
    case c4 => omega
    case c5 => simp
    go_ret
    rw [Nat.zero_add, List.nil_append] at hown
    exact ⟨⟨_, _, rfl, hown⟩, ((Below.refl _ w).alloc (Nat.le_refl _) _).grown hgrow (by simp) (fun k e => by cases e; exact Nat.le_refl _)⟩
end Go.Proofs.YtmflnpdmlfmcpaaDoor.Dr
