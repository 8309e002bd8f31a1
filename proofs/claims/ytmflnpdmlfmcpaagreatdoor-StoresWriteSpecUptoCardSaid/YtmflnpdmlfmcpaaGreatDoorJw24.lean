/- Joined texts. -/
import Derived.Test.YtmflnpdmlfmcpaaGreatDoorJw23
import Derived.Lib.SlBytesConst
namespace Go.Proofs.YtmflnpdmlfmcpaaGreatDoor
open Go.RowKit
variable {Nz : Nat}
theorem zx (w : World) (u0 u1 u2 : Value) : Below w.heap.size w (w.alloc (.cells #[u0, u1, u2] 24)) /\ (w.alloc (.cells #[u0, u1, u2] 24)).heap[w.heap.size]? = some (.cells #[u0, u1, u2] 24 (0, 0)) :=
 ⟨(Below.refl _ w).alloc (Nat.le_refl _) _, ak _ rfl⟩
end Go.Proofs.YtmflnpdmlfmcpaaGreatDoor
namespace Go.Proofs.YtmflnpdmlfmcpaaGreatDoor
open Go.RowKit
variable {Nz : Nat}
theorem zL {a : Option Addr} {n c : Nat} {j j' : am} {k : Int} {ba : Option Addr} {bn bc : Nat} {b : List UInt8} {w : World} (hNz : Nz <= w.heap.size) (h : cg Nz w a n c j) (hn : j.recs.length + 1 <= 5000) (hbl : b.length <= 100000) (hb : aN Nz w [.slice ba bn bc] b) (hd : bu j b = (j', k)) :
  Calls Tryz.prog 17 #[.agg #[.slice a n c, .int .i64 j.many, .int .i64 j.synced], .slice ba bn bc] w fun e w' => eW Nz e w' j' k /\ Below w.heap.size w w' := by
 have h1 := append_any a n c j ba bn bc b w hNz (by rw [<- h.recs.len]; exact hn) (by
  obtain ⟨xa, xn, xc, hv, _, _, h3, _⟩ := hb
  simp only [List.cons.injEq, and_true, Value.slice.injEq] at hv
  obtain ⟨rfl, rfl, rfl⟩ := hv
  rw [<- h3.len]; exact hbl) h hb
 rw [hd] at h1
 exact h1
end Go.Proofs.YtmflnpdmlfmcpaaGreatDoor
