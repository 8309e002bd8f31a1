/- Joined texts. -/
import Derived.Test.YtmflnpdmlfmcpaaGreatDoorJp19
set_option maxRecDepth 100000
set_option maxHeartbeats 4000000
namespace Go.Proofs.YtmflnpdmlfmcpaaGreatDoor.Dr
open Go.RowKit
theorem xN (x y:ar)(a:Option Addr)(n c:Nat)(a':Option Addr)(n' c':Nat)(w:World)(hpx:x.prev.length=32)(hpy:y.prev.length=32)(hsx:Sl 1 ai w a n x.data)(hsy:Sl 1 ai w a' n' y.data) :
  Calls Tryz.prog 33 #[.agg (ah x a n c).toArray,.agg (ah y a' n' c').toArray] w fun e w'=>e=.returned (.bool (dY x y))/\Below w.heap.size w w':=by
 obtain⟨r,hr⟩:=zg (dY x y)
 rw[<-hr]
 have HR:=aa hr
 have HX:=aa hsx
 have HY:=aa hsy
 have HPX:=aa hpx
 have HPY:=aa hpy
 clear hsx hsy hr hpx hpy
 go_enter Tryz.func33,Tryz.ntmps33
 go_upto_region 1 with (fail)
 have hB1:Below w.heap.size w ((w.alloc (.cells (ah x a n c).toArray 50)).alloc (.cells (ah y a' n' c').toArray 50)):=((Below.refl _ w).alloc (Nat.le_refl _) _).alloc (by simp) _
 have hr2:ac ((w.alloc (.cells (ah x a n c).toArray 50)).alloc (.cells (ah y a' n' c').toArray 50)) w.heap.size 50 (ah x a n c):=aB _ (ak _ rfl)
 have hr3:ac ((w.alloc (.cells (ah x a n c).toArray 50)).alloc (.cells (ah y a' n' c').toArray 50)) (w.heap.size+1) 50 (ah y a' n' c'):=ak _ (by simp)
 generalize (w.alloc (.cells (ah x a n c).toArray 50)).alloc (.cells (ah y a' n' c').toArray 50)=w1 at *
 obtain⟨X3,hX3⟩:=zg (w.heap.size+1)
 obtain⟨X2,hX2⟩:=zg w.heap.size
 rw[<-hX3]at hr3 ⊢
 rw[<-hX2]at hr2 ⊢
 clear hX3 hX2
 have c0:w1.cell? ⟨X2,0,none⟩=some (.int .i64 x.node):=(ac.cell hr2 0).trans (dj x a n c)
 have c1:w1.cell? ⟨X2,1,none⟩=some (.int .i64 x.no):=(ac.cell hr2 1).trans (fi x a n c)
 have c34:w1.cell? ⟨X2,34,none⟩=some (.slice a n c):=(ac.cell hr2 34).trans (em HPX.out a n c)
 have q0:w1.cell? ⟨X3,0,none⟩=some (.int .i64 y.node):=(ac.cell hr3 0).trans (dj y a' n' c')
 have q1:w1.cell? ⟨X3,1,none⟩=some (.int .i64 y.no):=(ac.cell hr3 1).trans (fi y a' n' c')
 have q34:w1.cell? ⟨X3,34,none⟩=some (.slice a' n' c'):=(ac.cell hr3 34).trans (em HPY.out a' n' c')
 have HE:=aa (iA a n c x.data a' n' c' y.data w1 (HX.out.below ai.keeps hB1) (HY.out.below ai.keeps hB1))
 have R2:=aa hr2
 have R3:=aa hr3
 clear hr2 hr3
 by_cases d1:x.node=y.node
 case neg =>
  have e1:(x.node == y.node)=false:=by simpa using d1
  have D1:=aa d1
  clear d1
  go_wp2
  go_ret
  exact⟨by rw[HR.out,dY,decide_eq_false D1.out];rfl,hB1⟩
 have e1:(x.node == y.node)=true:=by simpa using d1
 have D1:=aa d1
 clear d1
 by_cases d2:x.no=y.no
 case neg =>
  have e2:(x.no == y.no)=false:=by simpa using d2
  have D2:=aa d2
  clear d2
  go_wp2
  go_ret
  exact⟨by rw[HR.out,dY,decide_eq_false D2.out];simp,hB1⟩
 have e2:(x.no == y.no)=true:=by simpa using d2
 have D2:=aa d2
 clear d2
 cases hp:(x.prev == y.prev)
 ·have e3:=hp
  have HP:=aa hp
  clear hp
  go_wp2_with (first|(refine bm (br x.prev) rfl (aH 48 (.tmp 18) rfl X2 2 rfl (af x.prev) _ (dE R2.out) Tryz.underlying48 rfl (by rw[bJ,HPX.out];exact ey)) ?_)|(refine bm (br y.prev) rfl (aH 48 (.tmp 20) rfl X3 2 rfl (af y.prev) _ (dE R3.out) Tryz.underlying48 rfl (by rw[bJ,HPY.out];exact ey)) ?_)|(refine bm (.bool (x.prev == y.prev)) rfl (gZ (.tmp 19) (.tmp 21) rfl x.prev y.prev rfl rfl HPX.out HPY.out) ?_))
  go_ret
  exact⟨by rw[HR.out,dY,HP.out];simp,hB1⟩
 ·have e3:=hp
  have HP:=aa hp
  clear hp
  go_wp2_with (first|(refine bm (br x.prev) rfl (aH 48 (.tmp 18) rfl X2 2 rfl (af x.prev) _ (dE R2.out) Tryz.underlying48 rfl (by rw[bJ,HPX.out];exact ey)) ?_)|(refine bm (br y.prev) rfl (aH 48 (.tmp 20) rfl X3 2 rfl (af y.prev) _ (dE R3.out) Tryz.underlying48 rfl (by rw[bJ,HPY.out];exact ey)) ?_)|(refine bm (.bool (x.prev == y.prev)) rfl (gZ (.tmp 19) (.tmp 21) rfl x.prev y.prev rfl rfl HPX.out HPY.out) ?_)|(go_at_call 48;refine HE.out.mono ?_;rintro e w' ⟨rfl,rfl⟩))
  go_ret
  exact⟨by rw[HR.out,dY,HP.out,decide_eq_true D1.out,decide_eq_true D2.out];simp,hB1⟩
end Go.Proofs.YtmflnpdmlfmcpaaGreatDoor.Dr
