/- Joined texts. -/
import Derived.Test.YtmflnpdmlfmcpaaGreatDoorJp26
import Derived.Lib.SlBytesConst
namespace Go.Proofs.YtmflnpdmlfmcpaaGreatDoor.Dr
open Go.RowKit
theorem vo {W:World}{b o:Nat}{x:ar}{a:Option Addr}{n c:Nat}(h:W.rangeAt b o (ah x a n c)):W.rangeAt b (o+2) (af x.prev):=fun j v hv=>by
 have h1:(ah x a n c)[j+2]? = some v:=by
  unfold ah
  rw[List.getElem?_cons_succ,List.getElem?_cons_succ,List.getElem?_append_left (List.getElem?_eq_some_iff.1 hv).1]
  exact hv
 have:=h (j+2) v h1
 rw[<-this]
 congr 2
 omega
theorem td {o:Oper}{a:Act}{W:World}(x y:Operand)(ho:o.op=.binOp .eql 48 x y 48)(p:List UInt8)(hx:a.eval x=br p)(hy:a.eval y=br p)(hp:p.length=32):(execOp a.eval o).run Tryz.prog W=.ok (.value (.bool true)) W:=by
 rw[gZ x y ho p p hx hy hp hp,beq_self_eq_true]
theorem jO {w:World}{g:Nat}{t:TypeId}{fr:Nat × Nat}(bs:List UInt8)(n:Nat)(hn:bs.length=n)(h:w.heap[g]? = some (.cells (af bs).toArray t fr)):Sl 1 ai w (some ⟨g,0,none⟩) n bs:=by
 refine⟨hn,.inr ⟨g,0,rfl,fun i b hb=>⟨[.int .u8 b.toNat],rfl,rfl,fun j v hv => ?_⟩⟩⟩
 match j,hv with
 | 0,hv =>
  simp only[List.getElem?_cons_zero,Option.some.injEq]at hv
  subst hv
  have:=cd hb
  simpa[World.cell?,h] using this
end Go.Proofs.YtmflnpdmlfmcpaaGreatDoor.Dr
