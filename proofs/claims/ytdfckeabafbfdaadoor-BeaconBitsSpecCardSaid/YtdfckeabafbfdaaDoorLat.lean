/- Regions that draw their order, whose own operations only read and whose callees may make memory: one walk, in the order of the text, by run laws of one's own. Plain theorems; no condition. -/
import Derived.Test.YtdfckeabafbfdaaDoorChB
import Derived.Deep.QuietTactic
namespace Go.Proofs.YtdfckeabafbfdaaDoor.Dr
open Go.RowKit

/-- A world that has grown out of w. -/
structure Later (w : World) where
  wd : World
  below : Below w.heap.size w wd
instance (w : World) : Nonempty (Later w) := ⟨⟨w, Below.refl _ _⟩⟩
theorem wp_region_later {P : Program} {id : Nat} {Q : Exit → Act → World → Prop} {a : Act} {w : World} {l : List Oper} (hm : P.follows .mixedOrders = true) (hB : Region.lexB .any l.toArray = true)
    (h : wpQuiet P l.toArray (fun w' => ∃ z : Later w, w' = z.wd) (fun a' => ∀ w', (∃ z : Later w, w' = z.wd) → Q .normal a' w') l a) : (Code.region id l.toArray true).wp P Q a w :=
  wp_region_quiet (C := fun w' => ∃ z : Later w, w' = z.wd) hm hB ⟨⟨_, (Below.refl _ w).drew⟩, rfl⟩ (by simpa using h)
theorem later_call {P : Program} {f : FuncId} {args : Array Value} {w : World} {z : Later w} {v : Value} (h : Calls P f args z.wd fun e w' => e = .returned v ∧ Below z.wd.heap.size z.wd w') :
    Calls P f args z.wd fun e w'' => e = .returned v ∧ ∃ y : Later w, w'' = y.wd := h.mono fun _ w' ⟨he, hb⟩ => ⟨he, ⟨w', z.below.trans (hb.mono z.below.size)⟩, rfl⟩
theorem later_same {P : Program} {f : FuncId} {args : Array Value} {w : World} {z : Later w} {v : Value} (h : Calls P f args z.wd fun e w' => e = .returned v ∧ z.wd = w') :
    Calls P f args z.wd fun e w'' => e = .returned v ∧ ∃ y : Later w, w'' = y.wd := h.mono fun _ _ ⟨he, hb⟩ => ⟨he, z, hb.symm⟩
section
variable {P : Program} {ops : Array Oper} {w : World} {K : Act → Prop} {a : Act} {o : Oper} {rest : List Oper}
theorem lat_read (v : Value) (hw : Region.wanted o (yielded ops a.tmps) = true) (hr : ∀ z : Later w, (execOp a.eval o).run P z.wd = .ok (.value v) z.wd) (h : wpQuiet P ops (fun w' => ∃ z : Later w, w' = z.wd) K rest (a.put o.dst v)) : wpQuiet P ops (fun w' => ∃ z : Later w, w' = z.wd) K (o :: rest) a := by
  refine wpQuiet_step fun K' hK => ?_
  rw [if_pos hw]
  refine ⟨v, fun W hW => ?_, hK _ h⟩
  unfold Oper.quietAt
  obtain ⟨z, rfl⟩ := hW
  rw [hr z]
  exact ⟨rfl, rfl⟩
theorem lat_call (v : Value) (f : FuncId) (args : Array Value) (hw : Region.wanted o (yielded ops a.tmps) = true) (hr : ∀ W, (execOp a.eval o).run P W = .ok (.enter f args) W)
    (hc : ∀ z : Later w, Calls P f args z.wd fun e W' => e = .returned v ∧ Below z.wd.heap.size z.wd W') (h : wpQuiet P ops (fun w' => ∃ z : Later w, w' = z.wd) K rest (a.put o.dst v)) : wpQuiet P ops (fun w' => ∃ z : Later w, w' = z.wd) K (o :: rest) a := by
  refine wpQuiet_step fun K' hK => ?_
  rw [if_pos hw]
  refine ⟨v, fun W hW => ?_, hK _ h⟩
  unfold Oper.quietAt
  obtain ⟨z, rfl⟩ := hW
  rw [hr z.wd]
  exact ⟨rfl, later_call (hc z)⟩
theorem lat_skip (hw : Region.wanted o (yielded ops a.tmps) = false) (h : wpQuiet P ops (fun w' => ∃ z : Later w, w' = z.wd) K rest (a.put o.dst undef)) : wpQuiet P ops (fun w' => ∃ z : Later w, w' = z.wd) K (o :: rest) a := by
  refine wpQuiet_step fun K' hK => ?_
  rw [if_neg (by rw [hw]; simp)]
  exact hK _ h
end
end Go.Proofs.YtdfckeabafbfdaaDoor.Dr
