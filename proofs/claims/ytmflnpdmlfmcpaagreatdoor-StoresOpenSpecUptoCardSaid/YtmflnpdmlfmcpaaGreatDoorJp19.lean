/- Joined texts. -/
import Derived.Test.YtmflnpdmlfmcpaaGreatDoorJp15
import Derived.Test.YtmflnpdmlfmcpaaGreatDoorJp17
import Derived.Test.YtmflnpdmlfmcpaaGreatDoorJp18
set_option maxRecDepth 100000
set_option maxHeartbeats 4000000
namespace Go.Proofs.YtmflnpdmlfmcpaaGreatDoor.Dr
open Go.RowKit
theorem ru (a b:List UInt8):((aw a).toList == (aw b).toList)=(a == b):=by
 rw[ByteArray.toList_eq,ByteArray.toList_eq]
 simp[aw]
theorem iA (a:Option Addr)(n c:Nat)(l:List UInt8)(a':Option Addr)(n' c':Nat)(l':List UInt8)(w:World)(h:Sl 1 ai w a n l)(h':Sl 1 ai w a' n' l') :
  Calls Tryz.prog 48 #[.slice a n c,.slice a' n' c'] w fun e w'=>e=.returned (.bool (l == l'))/\w=w':=by
 have h1:=dB (c:=c) h
 have h2:=dB (c:=c') h'
 go_enter Tryz.func48,Tryz.ntmps48
 go_wp2
 go_ret
 show Ending.returned (.bool ((aw l).toList == (aw l').toList))=_/\_
 rw[ru]
 exact⟨rfl,rfl⟩
def dY (x y:ar):Bool:=decide (x.node=y.node) && decide (x.no=y.no) && (x.prev == y.prev) && (x.data == y.data)
theorem bm {P:Program}{ops:Array Oper}{rest:List Oper}{o:Oper}{a:Act}{w:World}{Q:Exit->Act->World->Prop}(v:Value)(hw:Region.wanted o (yielded ops a.tmps)=true)(hr:(execOp a.eval o).run P w=.ok (.value v) w)(h:wpList P ops Q rest (a.put o.dst v) w):wpList P ops Q (o::rest) a w:=by
 unfold wpList
 rw[if_pos hw]
 refine .inl ?_
 unfold Oper.wp
 rw[hr,Oper.upon_value]
 exact h
theorem gZ {o:Oper}{a:Act}{W:World}(x y:Operand)(ho:o.op=.binOp .eql 48 x y 48)(p q:List UInt8)(hx:a.eval x=br p)(hy:a.eval y=br q)(hp:p.length=32)(hq:q.length=32) :
  (execOp a.eval o).run Tryz.prog W=.ok (.value (.bool (p == q))) W:=by
 have h:=tw p q hp hq W
 have hg:(eqGuard .eql 48 x y (br p) (br q)).run Tryz.prog W=.ok () W:=by
  unfold br
  exact run_eqGuard_agg _ _ _ _ _ _ _ kr
 unfold execOp
 simp only[ho,hx,hy,Sem.run_bind,Sem.run_pure,Result.andThen_ok,hg,h]
theorem rv (x y:ar)(a:Option Addr)(n c:Nat)(a':Option Addr)(n' c':Nat)(w:World)(hpx:x.prev.length=32)(hpy:y.prev.length=32)(hsx:Sl 1 ai w a n x.data)(hsy:Sl 1 ai w a' n' y.data) :
  Calls Tryz.prog 31 #[.agg (ah x a n c).toArray,.agg (ah y a' n' c').toArray] w fun e w'=>e=.returned (.bool (dY x y))/\Below w.heap.size w w':=by
 obtain⟨r,hr⟩:=zg (dY x y)
 rw[<-hr]
 have HR:=aa hr
 have HX:=aa hsx
 have HY:=aa hsy
 have HPX:=aa hpx
 have HPY:=aa hpy
 clear hsx hsy hr hpx hpy
 go_enter Tryz.func31,Tryz.ntmps31
 go_upto_region 1 with (fail)
 have hB1:Below w.heap.size w ((w.alloc (.cells (ah x a n c).toArray 50)).alloc (.cells (ah y a' n' c').toArray 50)):=((Below.refl _ w).alloc (Nat.le_refl _) _).alloc (by simp) _
 have hr2:ac ((w.alloc (.cells (ah x a n c).toArray 50)).alloc (.cells (ah y a' n' c').toArray 50)) w.heap.size 50 (ah x a n c):=aB _ (ak _ rfl)
 have hr3:ac ((w.alloc (.cells (ah x a n c).toArray 50)).alloc (.cells (ah y a' n' c').toArray 50)) (w.heap.size+1) 50 (ah y a' n' c'):=ak _ (by simp)
 generalize (w.alloc (.cells (ah x a n c).toArray 50)).alloc (.cells (ah y a' n' c').toArray 50)=w1 at *
 obtain⟨X3,hX3⟩:=zg (w.heap.size+1)
 obtain⟨X2,hX2⟩:=zg w.heap.size
 rw[<-hX3]at hr3 ⊢
 rw[<-hX2]at hr2 ⊢
 clear hX3 hX2
 have c0:w1.cell? ⟨X2,0,none⟩=some (.int .i64 x.node):=(ac.cell hr2 0).trans (dj x a n c)
 have c1:w1.cell? ⟨X2,1,none⟩=some (.int .i64 x.no):=(ac.cell hr2 1).trans (fi x a n c)
 have c34:w1.cell? ⟨X2,34,none⟩=some (.slice a n c):=(ac.cell hr2 34).trans (em HPX.out a n c)
 have q0:w1.cell? ⟨X3,0,none⟩=some (.int .i64 y.node):=(ac.cell hr3 0).trans (dj y a' n' c')
 have q1:w1.cell? ⟨X3,1,none⟩=some (.int .i64 y.no):=(ac.cell hr3 1).trans (fi y a' n' c')
 have q34:w1.cell? ⟨X3,34,none⟩=some (.slice a' n' c'):=(ac.cell hr3 34).trans (em HPY.out a' n' c')
 have v1:=dB (c:=c) (HX.out.below ai.keeps hB1)
 have v2:=dB (c:=c') (HY.out.below ai.keeps hB1)
 have R2:=aa hr2
 have R3:=aa hr3
 clear hr2 hr3
 by_cases d1:x.node=y.node
 case neg =>
  have e1:(x.node == y.node)=false:=by simpa using d1
  have D1:=aa d1
  clear d1
  go_wp2
  go_ret
  exact⟨by rw[HR.out,dY,decide_eq_false D1.out];rfl,hB1⟩
 have e1:(x.node == y.node)=true:=by simpa using d1
 have D1:=aa d1
 clear d1
 by_cases d2:x.no=y.no
 case neg =>
  have e2:(x.no == y.no)=false:=by simpa using d2
  have D2:=aa d2
  clear d2
  go_wp2
  go_ret
  exact⟨by rw[HR.out,dY,decide_eq_false D2.out];simp,hB1⟩
 have e2:(x.no == y.no)=true:=by simpa using d2
 have D2:=aa d2
 clear d2
 cases hp:(x.prev == y.prev)
 ·have e3:=hp
  have HP:=aa hp
  clear hp
  go_wp2_with (first|(refine bm (br x.prev) rfl (aH 48 (.tmp 18) rfl X2 2 rfl (af x.prev) _ (dE R2.out) Tryz.underlying48 rfl (by rw[bJ,HPX.out];exact ey)) ?_)|(refine bm (br y.prev) rfl (aH 48 (.tmp 20) rfl X3 2 rfl (af y.prev) _ (dE R3.out) Tryz.underlying48 rfl (by rw[bJ,HPY.out];exact ey)) ?_)|(refine bm (.bool (x.prev == y.prev)) rfl (gZ (.tmp 19) (.tmp 21) rfl x.prev y.prev rfl rfl HPX.out HPY.out) ?_))
  go_ret
  exact⟨by rw[HR.out,dY,HP.out];simp,hB1⟩
 ·have e3:=hp
  have HP:=aa hp
  clear hp
  go_wp2_with (first|(refine bm (br x.prev) rfl (aH 48 (.tmp 18) rfl X2 2 rfl (af x.prev) _ (dE R2.out) Tryz.underlying48 rfl (by rw[bJ,HPX.out];exact ey)) ?_)|(refine bm (br y.prev) rfl (aH 48 (.tmp 20) rfl X3 2 rfl (af y.prev) _ (dE R3.out) Tryz.underlying48 rfl (by rw[bJ,HPY.out];exact ey)) ?_)|(refine bm (.bool (x.prev == y.prev)) rfl (gZ (.tmp 19) (.tmp 21) rfl x.prev y.prev rfl rfl HPX.out HPY.out) ?_))
  refine bodyPost_ret (results_tmp rfl _ _ _) rfl ?_
  show Ending.returned (.bool ((aw x.data).toList == (aw y.data).toList))=_/\_
  exact⟨by rw[HR.out,dY,HP.out,decide_eq_true D1.out,decide_eq_true D2.out,ru];simp,hB1⟩
theorem fX {P:Program}{ops:Array Oper}{rest:List Oper}{o:Oper}{a:Act}{w:World}{Q:Exit->Act->World->Prop}(v:Value)(hr:(execOp a.eval o).run P w=.ok (.value v) w)(h:wpList P ops Q rest (a.put o.dst v) w)(hw:Region.wanted o (yielded ops a.tmps)=true:=by kernel_rfl):wpList P ops Q (o::rest) a w:=bm v hw hr h
theorem dd {P:Program}{ops:Array Oper}{rest:List Oper}{o:Oper}{a:Act}{w:World}{Q:Exit->Act->World->Prop}(v:Value)(h:wpList P ops Q rest (a.put o.dst v) w)(hw:Region.wanted o (yielded ops a.tmps)=true:=by kernel_rfl)(hr:(execOp a.eval o).run P w=.ok (.value v) w:=by kernel_rfl):wpList P ops Q (o::rest) a w:=bm v hw hr h
def gG : World->List Value->List UInt8->Prop:=fun W vs b=>∃a n c,vs=[.slice a n c]/\n<=c/\Sl 1 ai W a n b
theorem gG.keeps : ju gG:=fun _ _ _ _ hb ⟨a,n,c,h1,h2,h3⟩=>⟨a,n,c,h1,h2,h3.below ai.keeps hb⟩
theorem rx {w:World}{a:Option Addr}{n:Nat}{rs:List (List UInt8)}(h:Sl 1 gG w a n rs){k:Nat}(hk:k<n) :
  ∃r b off ra rn rc,rs[k]? = some r/\a=some ⟨b,off,none⟩/\w.cell? ⟨b,off+k,none⟩=some (.slice ra rn rc)/\rn<=rc/\Sl 1 ai w ra rn r:=by
 obtain⟨hl,h⟩:=h
 obtain⟨r,hr⟩:=av hl hk
 rcases h with h|⟨b,off,ha,h⟩
 ·omega
 ·obtain⟨vs,_,⟨ra,rn,rc,rfl,h1,h2⟩,h3⟩:=h k r hr
  exact⟨r,b,off,ra,rn,rc,hr,ha,by simpa using h3 0 _ rfl,h1,h2⟩
theorem dm {rs:List (List UInt8)}{k:Nat}{r:List UInt8}(h:rs[k]? = some r):aK (rs.drop k)=match aP r with
  | none=>([],false)
  | some x=>(x::(aK (rs.drop (k+1))).1,(aK (rs.drop (k+1))).2):=by
 have e:rs.drop k=r::rs.drop (k+1):=by
  obtain⟨hk,rfl⟩:=List.getElem?_eq_some_iff.1 h
  exact(List.getElem_cons_drop hk).symm
 rw[e]
 rfl
theorem oG {rs:List (List UInt8)}{k:Nat}(h:rs.length<=k):aK (rs.drop k)=([],true):=by
 rw[List.drop_eq_nil_of_le h];rfl
def kx : PanicEntry:={ v:=.iface 31 (.int .i64 500),recovered:=false }
def uB (ok:Bool):Option (List PanicEntry):=if ok then none else some [kx]
theorem cu.show {A:Nat->Prop}{d:Nat}{W:World}{L:List Value}{v:aT}(h:cu A d W L v):∃(k:Int) (a:Option Addr) (n c:Nat),L=[.int .i64 k,.int .i64 (bk v),.string (aw (aI v)),.slice a n c]/\(k=1/\(∃m,v=.int m)\/k=2/\(∃s,v=.text s)\/k=3/\∃l d',v=.list l/\d=d'+1/\l.length=n/\Sl 4 (cu A d') W a n l):=by
 cases v with
 | int m =>
  have h':L=[.int .i64 1,.int .i64 m,.string ⟨#[]⟩,.slice none 0 0]:=by cases d<;>exact h.2
  exact⟨1,none,0,0,h',.inl ⟨rfl,m,rfl⟩⟩
 | text s =>
  have h':L=[.int .i64 2,.int .i64 0,.string (aw s),.slice none 0 0]:=by cases d<;>exact h
  exact⟨2,none,0,0,h',.inr (.inl ⟨rfl,s,rfl⟩)⟩
 | list l =>
  cases d with
  | zero=>exact absurd h (by simp[cu])
  | succ d =>
   obtain⟨a,n,c,h1,_,_,h4⟩:=h
   exact⟨3,a,n,c,h1,.inr (.inr ⟨rfl,l,d,rfl,rfl,h4.1,h4⟩)⟩
theorem lQ {b:List UInt8}{p q r s:aT}(h:ct b=some (.list [p,q,r,s])):aP b=if (aI r).length=32/\aL (cM ⟨bk p,bk q,aI r,aI s⟩)=b then some ⟨bk p,bk q,aI r,aI s⟩ else none:=by
 unfold aP;rw[h]
theorem mQ {b:List UInt8}{m:Int}(h:ct b=some (.int m)):aP b=none:=by unfold aP;rw[h]
theorem lR {b:List UInt8}{t:List UInt8}(h:ct b=some (.text t)):aP b=none:=by unfold aP;rw[h]
theorem lS {b:List UInt8}(h:ct b=none):aP b=none:=by unfold aP;rw[h]
theorem mR {b:List UInt8}{l:List aT}(h:ct b=some (.list l))(hl:l.length≠4):aP b=none:=by
 unfold aP;rw[h]
 match l,hl with
 | [],_=>rfl
 | [_],_=>rfl
 | [_,_],_=>rfl
 | [_,_,_],_=>rfl
 | [_,_,_,_],hl=>exact absurd rfl hl
 | _::_::_::_::_::_,_=>rfl
theorem pW {A:Nat->Prop}{d:Nat}{W:World}{L:List Value}{v:aT}(h:cu A d W L v):bQ (bk v):=by
 cases v with
 | int m =>
  have h':bQ m:=by cases d<;>exact h.1
  exact h'
 | text s=>exact(show bQ 0 from ⟨by decide,by decide⟩)
 | list l=>exact(show bQ 0 from ⟨by decide,by decide⟩)
theorem uC {A:Nat->Prop}{d:Nat}{W:World}{a:Option Addr}{p q r s:aT}(h:Sl 4 (cu A d) W a 4 [p,q,r,s]):∃g off,a=some ⟨g,off,none⟩/\W.cell? ⟨g,off+1,none⟩=some (.int .i64 (bk p))/\W.cell? ⟨g,off+5,none⟩=some (.int .i64 (bk q))/\W.cell? ⟨g,off+10,none⟩=some (.string (aw (aI r)))/\W.cell? ⟨g,off+14,none⟩=some (.string (aw (aI s)))/\bQ (bk p)/\bQ (bk q):=by
 rcases h.2 with h0|⟨g,off,ha,hc⟩
 ·omega
 ·obtain⟨v0,_,r0,c0⟩:=hc 0 p rfl
  obtain⟨v1,_,r1,c1⟩:=hc 1 q rfl
  obtain⟨v2,_,r2,c2⟩:=hc 2 r rfl
  obtain⟨v3,_,r3,c3⟩:=hc 3 s rfl
  obtain⟨k0,_,_,_,rfl,_⟩:=r0.show
  obtain⟨k1,_,_,_,rfl,_⟩:=r1.show
  obtain⟨k2,_,_,_,rfl,_⟩:=r2.show
  obtain⟨k3,_,_,_,rfl,_⟩:=r3.show
  exact⟨g,off,ha,by simpa using c0 1 _ rfl,by simpa[Nat.add_assoc] using c1 1 _ rfl,by simpa[Nat.add_assoc] using c2 2 _ rfl,by simpa[Nat.add_assoc] using c3 2 _ rfl,pW r0,pW r1⟩
theorem wR (a:Option Addr)(n c:Nat)(w:World) :
  Calls Tryz.prog 60 #[.slice a n c] w fun e w'=>e=.returned (.func (.func 100) #[] #[.pointer (some ⟨w.heap.size,0,none⟩)])/\w'=w.alloc (.cells #[.slice a n c] 22):=by
 go_enter Tryz.func60,Tryz.ntmps60
 go_wp2
 go_ret
 exact⟨rfl,rfl⟩
end Go.Proofs.YtmflnpdmlfmcpaaGreatDoor.Dr
