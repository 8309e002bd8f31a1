/- Joined texts. -/
import Derived.Test.YtmflnpdmlfmcpaaGreatDoorJp16
namespace Go.Proofs.YtmflnpdmlfmcpaaGreatDoor.Dr
open Go.RowKit
structure gY (P:Program)(ops:Array Oper)(w:World)(K:Act->Prop)(l:List Oper)(a:Act):Prop where
 out:wpQuiet P ops (fun w'=>∃z:aR w,w'=z.wd) K l a
theorem qx {P:Program}{id:Nat}{Q:Exit->Act->World->Prop}{a:Act}{w:World}{l:List Oper}(hm:P.follows .mixedOrders=true)(hB:Region.lexB .any l.toArray=true)
  (h:gY P l.toArray w (fun a'=>∀w',(∃z:aR w,w'=z.wd)->Q .normal a' w') l a):(Code.region id l.toArray true).wp P Q a w:=
 eu hm hB h.out
section
variable {P : Program} {ops : Array Oper} {w : World} {K : Act -> Prop} {a : Act} {o : Oper} {rest : List Oper}
theorem ro (v:Value)(hw:Region.wanted o (yielded ops a.tmps)=true)(hr:∀z:aR w,(execOp a.eval o).run P z.wd=.ok (.value v) z.wd)(h:gY P ops w K rest (a.put o.dst v)):gY P ops w K (o::rest) a:=⟨nv v hw hr h.out⟩
theorem yQ (v:Value)(f:FuncId)(args:Array Value)(hw:Region.wanted o (yielded ops a.tmps)=true)(hr:∀W,(execOp a.eval o).run P W=.ok (.enter f args) W)
  (hc:∀z:aR w,Calls P f args z.wd fun e W'=>e=.returned v/\Below z.wd.heap.size z.wd W') (h:gY P ops w K rest (a.put o.dst v)):gY P ops w K (o::rest) a:=⟨kS v f args hw hr hc h.out⟩
theorem yR (hw:Region.wanted o (yielded ops a.tmps)=false)(h:gY P ops w K rest (a.put o.dst undef)):gY P ops w K (o::rest) a:=⟨yN hw h.out⟩
theorem io (h:K a):gY P ops w K [] a:=⟨wpQuiet_nil h⟩
end
section
variable {P : Program} {ops : Array Oper} {w : World} {K : Act -> Prop} {rest : List Oper} {o : Oper} {a : Act}
theorem cn (v:Value)(h:gY P ops w K rest (a.put o.dst v))(hw:Region.wanted o (yielded ops a.tmps)=true:=by kernel_rfl)(hr:∀z:aR w,(execOp a.eval o).run P z.wd=.ok (.value v) z.wd:=by intro z;kernel_rfl):gY P ops w K (o::rest) a:=ro v hw hr h
theorem gr (v:Value)(hr:∀z:aR w,(execOp a.eval o).run P z.wd=.ok (.value v) z.wd)(h:gY P ops w K rest (a.put o.dst v))(hw:Region.wanted o (yielded ops a.tmps)=true:=by kernel_rfl):gY P ops w K (o::rest) a:=ro v hw hr h
theorem bw (h:gY P ops w K rest (a.put o.dst undef))(hw:Region.wanted o (yielded ops a.tmps)=false:=by kernel_rfl):gY P ops w K (o::rest) a:=yR hw h
end
end Go.Proofs.YtmflnpdmlfmcpaaGreatDoor.Dr
