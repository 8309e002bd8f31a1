/- The texts SnB LsA SvC of this seat, joined. No condition beyond what each theorem states. -/
import Derived.Test.YtmflnpdmlfmcpaaDoorHd27
import Derived.Test.YtmflnpdmlfmcpaaDoorHd22
import Derived.Test.YtmflnpdmlfmcpaaDoorHd19
import Derived.Test.YtmflnpdmlfmcpaaDoorHd13
import Derived.Lib.SlBytesConst
import Derived.Test.YtmflnpdmlfmcpaaDoorHd29
import Derived.Test.YtmflnpdmlfmcpaaDoorHd21
import Derived.Test.YtmflnpdmlfmcpaaDoorHd20
import Derived.Test.YtmflnpdmlfmcpaaDoorHd30
import Derived.Deep.Cut
import Derived.Test.YtmflnpdmlfmcpaaDoorHd26
import Derived.Test.YtmflnpdmlfmcpaaDoorHd18
import Derived.Test.YtmflnpdmlfmcpaaDoorHd28
import Derived.Deep.DeepCutAuto
import Derived.Deep.CutBlock
/- Contract of sane of the statements on package journal: the examples of the chapter hold. Plain theorems; no condition. -/
namespace Go.Proofs.YtmflnpdmlfmcpaaDoor
open Go.RowKit
variable {Nz : Nat}
theorem append_g {a : Option Addr} {n c : Nat} {j j' : JourM} {k : Int} {ba : Option Addr} {bn bc : Nat} {b : List UInt8} {w : World} (hNz : Nz ≤ w.heap.size) (h : JourR Nz w a n c j) (hn : j.recs.length + 1 ≤ 5000) (hbl : b.length ≤ 100000) (hb : IsBs Nz w [.slice ba bn bc] b) (hd : appendM j b = (j', k)) :
    Calls Tryd.prog 28 #[.agg #[.slice a n c, .int .i64 j.many, .int .i64 j.synced], .slice ba bn bc] w fun e w' => GaveJour Nz e w' j' k ∧ Below w.heap.size w w' := by
  have h1 := append_any a n c j ba bn bc b w hNz (by rw [← h.recs.len]; exact hn) (by
    obtain ⟨xa, xn, xc, hv, _, _, h3, _⟩ := hb
    simp only [List.cons.injEq, and_true, Value.slice.injEq] at hv
    obtain ⟨rfl, rfl, rfl⟩ := hv
    rw [← h3.len]; exact hbl) h hb
  rw [hd] at h1
  exact h1
end Go.Proofs.YtmflnpdmlfmcpaaDoor

/- The contract of the function that appends records as far as there is room (JournalSteps). Plain theorems; no condition beyond the bounds that each states. -/
namespace Go.Proofs.YtmflnpdmlfmcpaaDoor
open Go.RowKit
variable {Nz : Nat}
/-- A box of another type changes, new memory is made: a journal reads as it did. -/
theorem JourR.box {w W : World} {a : Option Addr} {n c X : Nat} {j : JourM} {C : Array Value} {t : TypeId} {fr : Nat × Nat} (h : JourR Nz w a n c j) (hX : Nz ≤ X) (hx : w.heap[X]? = some (.cells C t fr)) (ht : t ≠ 5 ∧ t ≠ 30 ∧ t ≠ 87) (hs : w.heap.size ≤ W.heap.size) (hW : ∀ b, b < w.heap.size → b ≠ X → W.heap[b]? = w.heap[b]?) : JourR Nz W a n c j := by
  have hm := h.m
  have hd : DiskR Nz w a n c none 0 0 ⟨j.recs, [], 0, false⟩ := ⟨h.recs, Sl.nil _ _ _ _, by unfold maxLen; omega, by unfold maxLen; omega, h.k, Nat.le_refl _, h.f, FitA.zero _ _⟩
  have h2 := hd.box hX hx ht hs hW
  exact ⟨h2.secs, h.m, h2.k1, h2.f1, h.s⟩
end Go.Proofs.YtmflnpdmlfmcpaaDoor

/- The function JournalSurvives returns true, and nothing that was there changes. Plain theorem; no condition beyond the bound on the records' bulk. -/
namespace Go.Proofs.YtmflnpdmlfmcpaaDoor
open Go.RowKit
variable {Nz : Nat}
theorem restart_rs {w : World} {a1 : Option Addr} {n1 c1 : Nat} {a2 : Option Addr} {n2 c2 : Nat} {d : DiskM} (h : DiskR Nz w a1 n1 c1 a2 n2 c2 d) : DiskR Nz w a1 n1 c1 none 0 0 d.restart :=
  ⟨h.secs, Sl.nil _ _ _ _, h.m1, by unfold maxLen; omega, h.k1, Nat.le_refl _, h.f1, FitA.zero _ _⟩
end Go.Proofs.YtmflnpdmlfmcpaaDoor
