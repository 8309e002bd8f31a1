/- The texts ChN of this seat, joined. No condition beyond what each theorem states. -/
import Derived.Test.YtmflnpdmlfmcpaaDoorGa31
import Derived.Test.YtmflnpdmlfmcpaaDoorGa28
import Derived.Test.YtmflnpdmlfmcpaaDoorGa18
import Derived.Lib.SlBytesConst
import Derived.Deep.DeepCutAuto
import Derived.Deep.QuietTactic
/- The contract of sane of the statements on package chain. Plain theorem; no condition beyond what it states. -/
namespace Go.Proofs.YtmflnpdmlfmcpaaDoor.Dr
open Go.RowKit
theorem range_prev {W : World} {b o : Nat} {x : LinkM} {a : Option Addr} {n c : Nat} (h : W.rangeAt b o (linkC x a n c)) : W.rangeAt b (o + 2) (byteVals x.prev) := fun j v hv => by
  have h1 : (linkC x a n c)[j + 2]? = some v := by
    unfold linkC
    rw [List.getElem?_cons_succ, List.getElem?_cons_succ, List.getElem?_append_left (List.getElem?_eq_some_iff.1 hv).1]
    exact hv
  have := h (j + 2) v h1
  rw [← this]
  congr 2
  omega
theorem run_op_same {o : Oper} {a : Act} {W : World} (x y : Operand) (ho : o.op = .binOp .eql 46 x y 46) (p : List UInt8) (hx : a.eval x = digV p) (hy : a.eval y = digV p) (hp : p.length = 32) : (execOp a.eval o).run Tryd.prog W = .ok (.value (.bool true)) W := by
  rw [run_op_eql x y ho p p hx hy hp hp, beq_self_eq_true]
theorem sl_marked {w : World} {g : Nat} {t : TypeId} {fr : Nat × Nat} (bs : List UInt8) (n : Nat) (hn : bs.length = n) (h : w.heap[g]? = some (.cells (byteVals bs).toArray t fr)) : Sl 1 IsByte w (some ⟨g, 0, none⟩) n bs := by
  refine ⟨hn, .inr ⟨g, 0, rfl, fun i b hb => ⟨[.int .u8 b.toNat], rfl, rfl, fun j v hv => ?_⟩⟩⟩
  match j, hv with
  | 0, hv =>
    simp only [List.getElem?_cons_zero, Option.some.injEq] at hv
    subst hv
    have := byteVals_get hb
    simpa [World.cell?, h] using this
end Go.Proofs.YtmflnpdmlfmcpaaDoor.Dr
