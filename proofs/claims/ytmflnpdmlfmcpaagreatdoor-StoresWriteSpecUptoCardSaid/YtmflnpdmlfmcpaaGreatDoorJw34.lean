/- Joined texts. -/
import Derived.Test.YtmflnpdmlfmcpaaGreatDoorJw24
import Derived.Test.YtmflnpdmlfmcpaaGreatDoorJw32
import Derived.Test.YtmflnpdmlfmcpaaGreatDoorJw25
import Derived.Test.YtmflnpdmlfmcpaaGreatDoorJw33
namespace Go.Proofs.YtmflnpdmlfmcpaaGreatDoor
open Go.RowKit
variable {Nz : Nat}
theorem cg.box {w W : World} {a : Option Addr} {n c X : Nat} {j : am} {C : Array Value} {t : TypeId} {fr : Nat × Nat} (h : cg Nz w a n c j) (hX : Nz <= X) (hx : w.heap[X]? = some (.cells C t fr)) (ht : t ≠ 5 /\ t ≠ 40 /\ t ≠ 64) (hs : w.heap.size <= W.heap.size) (hW : ∀ b, b < w.heap.size -> b ≠ X -> W.heap[b]? = w.heap[b]?) : cg Nz W a n c j := by
 have hm := h.m
 have hd : bF Nz w a n c none 0 0 ⟨j.recs, [], 0, false⟩ := ⟨h.recs, Sl.nil _ _ _ _, by unfold maxLen; omega, by unfold maxLen; omega, h.k, Nat.le_refl _, h.f, bO.zero _ _⟩
 have h2 := hd.box hX hx ht hs hW
 exact ⟨h2.secs, h.m, h2.k1, h2.f1, h.s⟩
end Go.Proofs.YtmflnpdmlfmcpaaGreatDoor
