/- The texts LwF of this seat, joined. No condition beyond what each theorem states. -/
import Derived.Test.YtmflnpdmlfmcpaaDoorHd12
import Derived.Test.YtmflnpdmlfmcpaaDoorHd23
/- Opening of a disk that comes in as an argument. Plain theorems; no condition. -/
namespace Go.Proofs.YtmflnpdmlfmcpaaDoor
open Go.RowKit Go.ChangeShapes Go.WideShapes Go.ChangeAt Go.Deep Go.Joins
section
variable {H : Type} {enc : TypeId × Value → H} {P : Program}
theorem fit_of_sl {α : Type} {W : World} {k n : Nat} {a : Option Addr} {R : World → List Value → α → Prop} {xs : List α} (h : Sl k R W a n xs) (hk : 0 < k) : FitA W.heap.size W a n := by
  rcases h.2 with h0 | ⟨b, off, rfl, hc⟩
  · exact .inl h0
  by_cases h0 : n = 0
  · exact .inl h0
  obtain ⟨x, hx⟩ := getElem?_of_lt h.1 (show 0 < n by omega)
  obtain ⟨vs, hl, _, hv⟩ := hc 0 x hx
  have hlt : b < W.heap.size := World.block_lt_of_cell? _ _ (hv 0 vs[0] (List.getElem?_eq_getElem (by omega)))
  exact .inr fun ad e => by cases e; exact ⟨hlt, .inl hlt⟩
theorem open_byte_cells {W : World} {held : Bool} {e : TypeId} (he : P.underlying e = some (.int .u8)) (n : Nat) (cs : List Value) (z : DataW H × List MemPlace) (h : DataW.trod enc P W 0 (fun _ => true) held n e cs = some z) : ∃ x, IsByte W cs x := by
  obtain ⟨i, h1, _, h2⟩ := DataW.trod_int he h
  obtain ⟨g1, g2⟩ := bounds_u8 h2
  refine ⟨UInt8.ofNat i.toNat, ?_⟩
  show cs = _
  rw [h1]
  congr 2
  rw [UInt8.toNat_ofNat']
  omega
end
section
variable {H : Type} {enc : TypeId × Value → H}
end
end Go.Proofs.YtmflnpdmlfmcpaaDoor
