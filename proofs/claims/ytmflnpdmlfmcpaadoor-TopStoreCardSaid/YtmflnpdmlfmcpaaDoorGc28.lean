/- The texts LsA SvC of this seat, joined. No condition beyond what each theorem states. -/
import Derived.Test.YtmflnpdmlfmcpaaDoorGc25
import Derived.Test.YtmflnpdmlfmcpaaDoorGc23
import Derived.Test.YtmflnpdmlfmcpaaDoorGc18
import Derived.Test.YtmflnpdmlfmcpaaDoorGc13
import Derived.Test.YtmflnpdmlfmcpaaDoorGc26
import Derived.Test.YtmflnpdmlfmcpaaDoorGc21
import Derived.Test.YtmflnpdmlfmcpaaDoorGc27
import Derived.Deep.Cut
import Derived.Lib.SlBytesConst
import Derived.Test.YtmflnpdmlfmcpaaDoorGc24
import Derived.Test.YtmflnpdmlfmcpaaDoorGc17
import Derived.Deep.DeepCutAuto
import Derived.Deep.CutBlock
/- The contract of the function that appends records as far as there is room (JournalSteps). Plain theorems; no condition beyond the bounds that each states. -/
namespace Go.Proofs.YtmflnpdmlfmcpaaDoor
open Go.RowKit
variable {Nz : Nat}
/-- A box of another type changes, new memory is made: a journal reads as it did. -/
theorem JourR.box {w W : World} {a : Option Addr} {n c X : Nat} {j : JourM} {C : Array Value} {t : TypeId} {fr : Nat × Nat} (h : JourR Nz w a n c j) (hX : Nz ≤ X) (hx : w.heap[X]? = some (.cells C t fr)) (ht : t ≠ 5 ∧ t ≠ 30 ∧ t ≠ 87) (hs : w.heap.size ≤ W.heap.size) (hW : ∀ b, b < w.heap.size → b ≠ X → W.heap[b]? = w.heap[b]?) : JourR Nz W a n c j := by
  have hm := h.m
  have hd : DiskR Nz w a n c none 0 0 ⟨j.recs, [], 0, false⟩ := ⟨h.recs, Sl.nil _ _ _ _, by unfold maxLen; omega, by unfold maxLen; omega, h.k, Nat.le_refl _, h.f, FitA.zero _ _⟩
  have h2 := hd.box hX hx ht hs hW
  exact ⟨h2.secs, h.m, h2.k1, h2.f1, h.s⟩
end Go.Proofs.YtmflnpdmlfmcpaaDoor

/- The function JournalSurvives returns true, and nothing that was there changes. Plain theorem; no condition beyond the bound on the records' bulk. -/
namespace Go.Proofs.YtmflnpdmlfmcpaaDoor
open Go.RowKit
variable {Nz : Nat}
theorem restart_rs {w : World} {a1 : Option Addr} {n1 c1 : Nat} {a2 : Option Addr} {n2 c2 : Nat} {d : DiskM} (h : DiskR Nz w a1 n1 c1 a2 n2 c2 d) : DiskR Nz w a1 n1 c1 none 0 0 d.restart :=
  ⟨h.secs, Sl.nil _ _ _ _, h.m1, by unfold maxLen; omega, h.k1, Nat.le_refl _, h.f1, FitA.zero _ _⟩
end Go.Proofs.YtmflnpdmlfmcpaaDoor
