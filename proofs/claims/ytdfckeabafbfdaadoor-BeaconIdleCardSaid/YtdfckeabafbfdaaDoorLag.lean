/- The laws of Lat behind a shut word, so that no unifier opens the rest of the region. Plain theorems; no condition. -/
import Derived.Test.YtdfckeabafbfdaaDoorLat
namespace Go.Proofs.YtdfckeabafbfdaaDoor.Dr
open Go.RowKit

/-- The rest of a region that only reads, while memory may have grown. -/
structure LatG (P : Program) (ops : Array Oper) (w : World) (K : Act → Prop) (l : List Oper) (a : Act) : Prop where
  out : wpQuiet P ops (fun w' => ∃ z : Later w, w' = z.wd) K l a
theorem wp_region_lag {P : Program} {id : Nat} {Q : Exit → Act → World → Prop} {a : Act} {w : World} {l : List Oper} (hm : P.follows .mixedOrders = true) (hB : Region.lexB .any l.toArray = true)
    (h : LatG P l.toArray w (fun a' => ∀ w', (∃ z : Later w, w' = z.wd) → Q .normal a' w') l a) : (Code.region id l.toArray true).wp P Q a w :=
  wp_region_later hm hB h.out
section
variable {P : Program} {ops : Array Oper} {w : World} {K : Act → Prop} {a : Act} {o : Oper} {rest : List Oper}
theorem lag_read (v : Value) (hw : Region.wanted o (yielded ops a.tmps) = true) (hr : ∀ z : Later w, (execOp a.eval o).run P z.wd = .ok (.value v) z.wd) (h : LatG P ops w K rest (a.put o.dst v)) : LatG P ops w K (o :: rest) a := ⟨lat_read v hw hr h.out⟩
theorem lag_call (v : Value) (f : FuncId) (args : Array Value) (hw : Region.wanted o (yielded ops a.tmps) = true) (hr : ∀ W, (execOp a.eval o).run P W = .ok (.enter f args) W)
    (hc : ∀ z : Later w, Calls P f args z.wd fun e W' => e = .returned v ∧ Below z.wd.heap.size z.wd W') (h : LatG P ops w K rest (a.put o.dst v)) : LatG P ops w K (o :: rest) a := ⟨lat_call v f args hw hr hc h.out⟩
theorem lag_skip (hw : Region.wanted o (yielded ops a.tmps) = false) (h : LatG P ops w K rest (a.put o.dst undef)) : LatG P ops w K (o :: rest) a := ⟨lat_skip hw h.out⟩
theorem lag_nil (h : K a) : LatG P ops w K [] a := ⟨wpQuiet_nil h⟩
end
end Go.Proofs.YtdfckeabafbfdaaDoor.Dr
