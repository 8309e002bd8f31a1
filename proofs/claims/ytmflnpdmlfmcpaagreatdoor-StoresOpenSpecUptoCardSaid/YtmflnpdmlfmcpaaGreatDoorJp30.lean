/- Joined texts. -/
import Derived.Test.YtmflnpdmlfmcpaaGreatDoorJp11
set_option maxRecDepth 100000
set_option maxHeartbeats 4000000
namespace Go.Proofs.YtmflnpdmlfmcpaaGreatDoor
open Go.RowKit
variable {Nz : Nat}
theorem DD {d:aj}{w:World}{B k c:Nat}{a:Option Addr}{vs:List Value}{m s:Int}(h:ci d=(⟨bN d.secs,d.secs.length,(bN d.secs).length⟩,0))(hd:d.secs.length<=100)(ho:w.ownsRow B 40 1 (.slice a k c) k vs)(hr:cF w B vs (bN d.secs))(hk:k<=4096)(hm:m=d.secs.length)(hs:s=k) :
  eW Nz (.returned (.tuple #[.agg #[.slice a k c,.int .i64 m,.int .i64 s],.int .i64 0])) w (ci d).1 (ci d).2:=by
 rw[h]
 obtain⟨h1,h2,h3⟩:=yk (Nz:=Nz) ho hr
 have hl:=h2.len
 subst hm
 subst hs
 rw[<-hl]
 refine⟨a,(bN d.secs).length,c,rfl,?_⟩
 rw[<-hl]at h1 h2 h3
 exact⟨h2,om,h1,h3,fun b hb=>by have:=vT d.secs b hb;omega⟩
theorem Ek (a1:Option Addr)(n1 c1:Nat)(a2:Option Addr)(n2 c2:Nat)(d:aj)(w:World)(hn:d.okB=true->n1<=100)(h:bF Nz w a1 n1 c1 a2 n2 c2 d) :
  Calls Tryz.prog 25 #[.agg #[.slice a1 n1 c1,.slice a2 n2 c2,.int .i64 d.left,.bool d.stopped]] w fun e w'=>eW Nz e w' (ci d).1 (ci d).2/\Below w.heap.size w w':=by
 have H:=aa h
 have m1:=h.m1
 have m2:=h.m2
 clear h
 go_enter Tryz.func25,Tryz.ntmps25
 go_wp2_with fail
 refine(n6 _ _ _ _ _ _ d _ (H.out.below ?hb)).mono ?_
 case hb=>go_grown
 rintro e w1 ⟨rfl,hB⟩
 have hx1:w1.heap[w.heap.size]? = some (.cells #[.slice a1 n1 c1,.slice a2 n2 c2,.int .i64 d.left,.bool d.stopped] 27 (0,0)):=(hB.block _ (by simp;omega)).trans (aB _ (ak _ rfl))
 have hx2:w1.heap[w.heap.size+1]? = some (.cells #[.slice none 0 0,.int .i64 0,.int .i64 0] 24 (0,0)):=(hB.block _ (by simp)).trans (ak _ (by simp))
 have hB1:Below w.heap.size w w1:=Below.trans (by go_grown) (hB.mono (by simp;omega))
 have hs1:=hB1.size
 obtain⟨_,b0,b1,b2,b3,_,_⟩:=aF (Below.refl _ w1) hx1
 obtain⟨hl2,r0,r1,r2,⟨i0,i1,i2⟩,y0,y1,y2⟩:=aJ (Below.refl _ w1) hx2
 have HX2:=aa hx2
 clear hB hx1 hx2
 cases hok:d.okB
 ·have HN:=aa (vU hok)
  rw[aj.check_bad hok]
  clear hok
  go_wp2
  refine bodyPost_ret (by simp[results,Tryz.results25,go_sem,r0,r1,r2];try rfl) rfl ?_
  exact⟨CX HN.out,by go_grown⟩
 ·have hn:=hn hok
  rw[aj.check_ok hok]
  have H128:=aa (iT hok)
  cases hst:d.stopped
  ·by_cases hp:n2=0
   ·have HN:=aa (nl hok hst (by rw[H.out.pend.len];exact hp))
    rw[hst]at b3
    clear hok hst
    go_wp2_with fail
    refine(CW _ _ _ _ _ om H128.out ((H.out.below hB1).secs)).mono ?_
    rintro e w2 ⟨⟨ra,rk,rc,vs,rfl,hk,hro,hrs⟩,hB2⟩
    have hs2:=hB2.size
    have b0:=ag hB2 b0
    have hx2':=(hB2.block _ hl2).trans HX2.out
    obtain⟨_,r0,r1,r2,⟨i0,i1,i2⟩,y0,y1,y2⟩:=aJ (Below.refl _ w2) hx2'
    have HRO:=aa hro
    have HRS:=aa hrs
    have hB3:Below w.heap.size w w2:=hB1.trans (hB2.mono hs1)
    have HD:Hid (d.secs.length=n1):=H.out.secs.len
    clear hro hrs hx2' hB2 b1 b2 b3 hp
    go_wp2
    refine bodyPost_ret (by simp[results,Tryz.results25,go_sem,r0,r1,r2];try rfl) rfl ?_
    have hfar:∀g,w1.heap.size<=g->((((w2.setCell ⟨w.heap.size+1,0,none⟩ (.slice ra rk rc)).setCell ⟨w.heap.size+1,1,none⟩ (.int .i64 n1)).setCell ⟨w.heap.size+1,2,none⟩ (.int .i64 rk))).heap[g]? = w2.heap[g]? := fun g hg =>
     (Below.heap_setCell _ _ _ g (by simp;omega)).trans ((Below.heap_setCell _ _ _ g (by simp;omega)).trans (Below.heap_setCell _ _ _ g (by simp;omega)))
    exact⟨DD HN.out (by rw[HD.out];exact hn) (Ap HRO.out hfar) (HRS.out.far hfar) hk (by rw[HD.out]) rfl,by go_grown⟩
   ·have HN:=aa (nZ hok hst (by rw[H.out.pend.len];omega))
    rw[hst]at b3
    clear hok hst
    go_wp2
    refine bodyPost_ret (by simp[results,Tryz.results25,go_sem,r0,r1,r2];try rfl) rfl ?_
    exact⟨CX HN.out,by go_grown⟩
  ·have HN:=aa (lh hok hst)
   rw[hst]at b3
   clear hok hst
   go_wp2
   refine bodyPost_ret (by simp[results,Tryz.results25,go_sem,r0,r1,r2];try rfl) rfl ?_
   exact⟨CX HN.out,by go_grown⟩
end Go.Proofs.YtmflnpdmlfmcpaaGreatDoor
