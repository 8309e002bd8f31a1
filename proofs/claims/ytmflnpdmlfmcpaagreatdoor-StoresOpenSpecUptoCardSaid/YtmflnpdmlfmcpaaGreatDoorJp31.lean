/- Joined texts. -/
import Derived.Test.YtmflnpdmlfmcpaaGreatDoorJp11
set_option maxRecDepth 100000
set_option maxHeartbeats 8000000
namespace Go.Proofs.YtmflnpdmlfmcpaaGreatDoor
open Go.RowKit
variable {Nz : Nat}
attribute [local go_sem] Oper.semAt_some
theorem rM (l:List (List UInt8))(f at' last:Nat)(h:at'<=l.length):(cO l f at' last).length+at'<=l.length:=by
 induction f generalizing at' last with
 | zero=>simpa[cO] using h
 | succ f ih =>
  cases hr:el l at' with
  | none=>rw[gh hr];simpa using h
  | some p =>
   obtain⟨b',nx⟩:=p
   obtain⟨h1,h2,_⟩:=fu hr
   by_cases hl:cw l at'<last
   ·rw[kK hr hl];simpa using h
   ·rw[jX hr hl]
    have:=ih nx (cw l at') h2
    simp only[List.length_cons]
    omega
theorem mU (l:List (List UInt8)):(bN l).length<=l.length:=by
 have:=rM l (l.length+1) 0 0 (Nat.zero_le _)
 exact this
theorem cF.cellsKept {w w':World}{B:Nat}{vs:List Value}{rs:List (List UInt8)}(h:cF w B vs rs)(hw:CellsKept w w'):cF w' B vs rs:=
 ⟨h.1,fun i b hb=>by obtain⟨va,m,vc,h1,h2⟩:=h.2 i b hb;exact⟨va,m,vc,h1,gD h2 hw⟩⟩
def oL (w:World)(X n1 Y:Nat)(sv:Value)(pre:List (List UInt8))(W:World):Prop:=∃va m vc vs,W.heap[Y]? = some (.cells #[sv] 22 (0,0))/\W.heap[X]? = some (.cells #[.slice va m vc,.int .i64 n1,.int .i64 0] 24 (0,0))/\W.ownsRow w.heap.size 40 1 (.slice va m vc) m vs/\cF W w.heap.size vs pre/\Below w.heap.size w W
theorem jJ {W w3:World}{o:Obj}{X base n:Nat}{C:Array Value}{t e:TypeId}{v:Value}{xs:List Value}(hq:W.heap[X]? = some (.cells C t (0,0)))(ho:W.ownsRow base e 1 v n xs)(hne:t≠e)(hg:(W.alloc o).grownBy w3 v.ownBlock):w3.heap[X]? = some (.cells C t (0,0)):=
 bx (aB o hq) hg (de (ho.alloc o) (aB o hq) hne)
theorem iX {w:World}{B X i:Nat}{e t:TypeId}{size n:Nat}{v u:Value}{xs:List Value}{C:Array Value}(h:w.ownsRow B e size v n xs)(hx:w.heap[X]? = some (.cells C t (0,0)))(ht:t≠e):(w.setCell ⟨X,i,none⟩ u).ownsRow B e size v n xs:=
 cZ h fun g hg=>Below.heap_setCell _ _ _ _ (fun e1=>de h hx ht (by rw[hg];exact congrArg some e1.symm))
theorem cF.boxed {w:World}{B X i:Nat}{t:TypeId}{u:Value}{vs:List Value}{rs:List (List UInt8)}{C:Array Value}(h:cF w B vs rs)(hx:w.heap[X]? = some (.cells C t (0,0)))(ht:t≠5):cF (w.setCell ⟨X,i,none⟩ u) B vs rs:=
 ⟨h.1,fun j b hb=>by obtain⟨va,m,vc,h1,h2⟩:=h.2 j b hb;exact⟨va,m,vc,h1,iX h2 hx ht⟩⟩
theorem eY {w W w3:World}{B X n1 Y m vc xm xc vc2:Nat}{sv:Value}{va xa va2:Option Addr}{vs:List Value}{pre:List (List UInt8)}{y:List UInt8}(hX:w.heap.size<=X)
  (q0:W.heap[Y]? = some (.cells #[sv] 22 (0,0))) (q1:W.heap[X]? = some (.cells #[.slice va m vc,.int .i64 n1,.int .i64 0] 24 (0,0))) (q2:W.ownsRow w.heap.size 40 1 (.slice va m vc) m vs) (q3:cF W w.heap.size vs pre) (q4:Below w.heap.size w W)
  (hr:W.ownsRow w.heap.size 5 1 (.slice xa xm xc) xm (af y)) (hown:w3.ownsRow w.heap.size 40 1 (.slice va2 (m+1) vc2) (m+1) (vs++[.slice xa xm xc])) (hgrow:(W.alloc (.cells #[.slice xa xm xc] 40)).grownBy w3 (Value.slice va m vc).ownBlock) :
  KeepsFrom B W (w3.setCell ⟨X,0,none⟩ (.slice va2 (m+1) vc2))/\km w.heap.size Y W (w3.setCell ⟨X,0,none⟩ (.slice va2 (m+1) vc2))/\oL w X n1 Y sv (pre++[y]) (w3.setCell ⟨X,0,none⟩ (.slice va2 (m+1) vc2)):=by
 have hx3:w3.heap[X]? = some (.cells #[.slice va m vc,.int .i64 n1,.int .i64 0] 24 (0,0)):=jJ q1 q2 (by decide) hgrow
 have hsz:=hgrow.size
 simp at hsz
 have hsw:=q4.size
 have keep:∀k,k<W.heap.size->k≠X->some k≠(Value.slice va m vc).ownBlock->(w3.setCell ⟨X,0,none⟩ (.slice va2 (m+1) vc2)).heap[k]? = W.heap[k]? := fun k h1 h2 h3 =>
  (Below.heap_setCell _ _ _ k (by simpa using h2)).trans ((hgrow.block k (by simp;omega) h3).trans (Below.heap_alloc _ _ k h1))
 have hYX:Y≠X:=by
  rintro rfl
  rw[q0]at q1
  cases q1
 have keepY:(w3.setCell ⟨X,0,none⟩ (.slice va2 (m+1) vc2)).heap[Y]? = W.heap[Y]? := keep Y (lt_of_block q0) hYX (de q2 q0 (by decide))
 have hB:Below w.heap.size W (w3.setCell ⟨X,0,none⟩ (.slice va2 (m+1) vc2)):=
  ((((Below.refl w.heap.size W).alloc hsw _).grown hgrow (by simp;omega) (fun q hq=>(q2.lt q hq).1)).setCell (p:=⟨X,0,none⟩) hX _)
 refine⟨⟨by simp;omega,fun k o _ hk ho=>(keep k (lt_of_block hk) ?_ ?_).trans hk⟩,⟨hB,fun v hv=>(World.cell?_of_block (a:=⟨Y,0,none⟩) keepY).trans hv⟩,va2,m+1,vc2,vs++[.slice xa xm xc],keepY.trans q0,?_,iX hown hx3 (by decide),?_,q4.trans hB⟩
 ·rintro rfl
  rw[hk]at q1
  cases q1
  cases ho
 ·intro e
  obtain⟨_,hlt⟩:=q2.lt k e.symm
  rcases q2.2 with ⟨h0,_⟩|⟨g,cap,cur,h0,_,hg,_⟩
  ·rw[h0]at e;simp[Value.ownBlock]at e
  ·rw[h0]at e
   simp only[Value.ownBlock,Option.some.injEq]at e
   subst e
   rw[hg]at hk
   cases hk
   cases ho
 ·have:=ax hx3 0 (.slice va2 (m+1) vc2)
  simpa using this
 ·have hA:Below W.heap.size W (W.alloc (.cells #[.slice xa xm xc] 40)):=(Below.refl _ W).alloc (Nat.le_refl _) _
  exact(((q3.below hA).snoc (jy hr hA)).grown (q2.alloc _) (by decide) hgrow).boxed hx3 (by decide)
theorem sT (a:Option Addr)(n c:Nat)(w:World) :
  Calls Tryz.prog 57 #[.slice a n c] w fun e w'=>e=.returned (.func (.func 97) #[] #[.pointer (some ⟨w.heap.size,0,none⟩)])/\w'=w.alloc (.cells #[.slice a n c] 22):=by
 go_enter Tryz.func57,Tryz.ntmps57
 go_wp2
 go_ret
 exact⟨rfl,rfl⟩
theorem oL.kept {w W W':World}{B X n1 Y:Nat}{sv:Value}{pre:List (List UInt8)}(h:oL w X n1 Y sv pre W)(hk:CellsKept W W')(hB:Below B W W')(hs:w.heap.size<=B):oL w X n1 Y sv pre W':=by
 obtain⟨va,m,vc,vs,h0,h1,h2,h3,h4⟩:=h
 exact⟨va,m,vc,vs,hk.same _ _ _ _ h0,hk.same _ _ _ _ h1,gD h2 hk,h3.cellsKept hk,h4.trans (hB.mono hs)⟩
theorem uu {B X:Nat}{W1 W2 W3:World}(h:km B X W1 W2)(k:km B X W2 W3):km B X W1 W3:=⟨h.1.trans k.1,fun v hv=>k.2 v (h.2 v hv)⟩
theorem uv {B X:Nat}{w:World}(hB:B<=w.heap.size)(W:World)(l:Nat)(o o':Obj)(hl:w.heap.size<=l)(h:W.heap[l]? = some o)(ho:o.isCells=false)(hw:o.isWalk=false):km B X W (W.putObj l o'):=
 ⟨belowK_b hB W l o o' hl h ho hw,fun _ hv=>(CellsKept.putObj W o' h ho).cell hv⟩
end Go.Proofs.YtmflnpdmlfmcpaaGreatDoor
namespace Go.Proofs.YtmflnpdmlfmcpaaGreatDoor
open Go.RowKit
variable {Nz : Nat}
attribute [local go_sem] Oper.semAt_some
structure et (B:Nat)(w:World)(a:Option Addr)(n c:Nat)(j:am)(vs:List Value):Prop where
 own:w.ownsRow B 40 1 (.slice a n c) n vs
 recs:cF w B vs j.recs
 m:n<=4096
 s:∀b ∈ j.recs,b.length<=100000
theorem et.jour {B:Nat}{w:World}{a:Option Addr}{n c:Nat}{j:am}{vs:List Value}(h:et B w a n c j vs):cg Nz w a n c j:=by
 obtain⟨h1,h2,h3⟩:=yk (Nz:=Nz) h.own h.recs
 exact⟨h2,by have:=h.m;omega,h1,h3,h.s⟩
def kz (B:Nat)(e:Ending)(w:World)(j:am)(n:Int):Prop:=∃a k c vs,e=.returned (.tuple #[.agg #[.slice a k c,.int .i64 j.many,.int .i64 j.synced],.int .i64 n])/\et B w a k c j vs
theorem nD {B:Nat}{d:aj}{w:World}{n:Int}(h:ci d=(.zero,n)):kz B (.returned (.tuple #[.agg #[.slice none 0 0,.int .i64 0,.int .i64 0],.int .i64 n])) w (ci d).1 (ci d).2:=by
 rw[h];exact⟨none,0,0,[],rfl,World.ownsRow_nil _ _ _ _,⟨rfl,fun i b hb=>by simp[am.zero]at hb⟩,om,fun b hb=>by cases hb⟩
theorem zo {d:aj}{w:World}{B k c:Nat}{a:Option Addr}{vs:List Value}{m s:Int}(h:ci d=(⟨bN d.secs,d.secs.length,(bN d.secs).length⟩,0))(hd:d.secs.length<=100)(ho:w.ownsRow B 40 1 (.slice a k c) k vs)(hr:cF w B vs (bN d.secs))(hk:k<=4096)(hm:m=d.secs.length)(hs:s=k) :
  kz B (.returned (.tuple #[.agg #[.slice a k c,.int .i64 m,.int .i64 s],.int .i64 0])) w (ci d).1 (ci d).2:=by
 have hS:∀b ∈ bN d.secs,b.length<=100000:=fun b hb=>by have:=vT d.secs b hb;omega
 rw[h]
 have hl:(bN d.secs).length=k:=by have:=hr.1;have:=ho.1;omega
 exact⟨a,k,c,vs,by rw[hm,hs,hl],ho,hr,hk,hS⟩
theorem sU (n:Nat)(hn3:3<=n)(a1:Option Addr)(n1 c1:Nat)(a2:Option Addr)(n2 c2:Nat)(d:aj)(w:World)(hn:d.okB=true->n1<=100)(h:bF Nz w a1 n1 c1 a2 n2 c2 d) :
  CallsIn Fence.wide n Tryz.prog 23 #[.agg #[.slice a1 n1 c1,.slice a2 n2 c2,.int .i64 d.left,.bool d.stopped]] w fun e w'=>kz w.heap.size e w' (ci d).1 (ci d).2/\Below w.heap.size w w':=by
 have h1:1<=n:=om
 have hro:Fence.wide.round=none:=rfl
 have h22:Fence.wide.fn 45:=trivial
 have h64:Fence.wide.fn 57:=trivial
 have h82:Fence.wide.fn 97:=trivial
 have H:=aa h
 have m1:=h.m1
 have m2:=h.m2
 clear h
 refine callsIn_of_wp_marks Tryz.func23 rfl trivial ?_ hro
 simp only[Tryz.ntmps23,List.size_toArray,List.length_cons,List.length_nil,Nat.reduceAdd,Nat.reduceSub,Array.replicate_succ,Array.replicate_zero,List.push_toArray,List.append_toArray,List.nil_append,List.cons_append]
 gi_wp2_with fail
 refine CallsIn.mono (callsIn_wide.2 (gI _ _ _ _ _ _ d _ (H.out.below ?hb))) ?_
 case hb=>go_grown
 rintro e w1 ⟨rfl,hB⟩
 have hx1:w1.heap[w.heap.size]? = some (.cells #[.slice a1 n1 c1,.slice a2 n2 c2,.int .i64 d.left,.bool d.stopped] 27 (0,0)):=(hB.block _ (by simp;omega)).trans (aB _ (ak _ rfl))
 have hx2:w1.heap[w.heap.size+1]? = some (.cells #[.slice none 0 0,.int .i64 0,.int .i64 0] 24 (0,0)):=(hB.block _ (by simp)).trans (ak _ (by simp))
 have hB1:Below w.heap.size w w1:=Below.trans (by go_grown) (hB.mono (by simp;omega))
 have hs1:=hB1.size
 obtain⟨_,b0,b1,b2,b3,_,_⟩:=aF (Below.refl _ w1) hx1
 obtain⟨hl2,r0,r1,r2,⟨i0,i1,i2⟩,y0,y1,y2⟩:=aJ (Below.refl _ w1) hx2
 have HX2:=aa hx2
 clear hB hx1 hx2
 cases hok:d.okB
 ·have HN:=aa (vU hok)
  rw[aj.check_bad hok]
  clear hok
  gi_wp2
  refine⟨_,?_,nD HN.out,by go_grown⟩
  simp[results,Tryz.f23,go_sem,r0,r1,r2]
 ·rw[aj.check_ok hok]
  have hn:=hn hok
  have H128:=aa (iT hok)
  cases hst:d.stopped
  ·by_cases hp:n2=0
   ·have HN:=aa (nl hok hst (by rw[H.out.pend.len];exact hp))
    rw[hst]at b3
    clear hok hst
    gi_wp2_with (gi_at_call 57;refine CallsIn.mono (callsIn_wide.2 (sT _ _ _ _)) ?_;rintro e w2 ⟨rfl,rfl⟩)
    obtain⟨wb,hwb⟩:∃wb,(w1.setCell ⟨w.heap.size+1,1,none⟩ (.int .i64 n1)).alloc (.cells #[.slice a1 n1 c1] 22)=wb:=⟨_,rfl⟩
    rw[hwb]
    have hsz:wb.heap.size=w1.heap.size+1:=by rw[<-hwb];simp
    have hxb:wb.heap[w.heap.size+1]? = some (.cells #[.slice none 0 0,.int .i64 n1,.int .i64 0] 24 (0,0)):=by
     rw[<-hwb]
     refine aB _ ?_
     have:=ax HX2.out 1 (.int .i64 n1)
     simpa using this
    have hcB:wb.cell? ⟨w1.heap.size,0,none⟩=some (.slice a1 n1 c1):=by
     rw[<-hwb,dz _ _ (by simp)]
     rfl
    have hBb:Below w.heap.size w wb:=by rw[<-hwb];exact(hB1.setCell (p:=⟨w.heap.size+1,1,none⟩) (by simp) _).alloc (by simp;omega) _
    have hx1:wb.heap[w1.heap.size]? = some (.cells #[.slice a1 n1 c1] 22 (0,0)):=by rw[<-hwb];exact ak _ (by simp)
    clear hwb b0 b1 b2 b3 r0 r1 r2 i0 i1 i2 y0 y1 y2 HX2
    refine nj hro h1 (gf:=97) (lb:=#[.pointer (some ⟨w1.heap.size,0,none⟩)]) rfl h82 (enters_of Tryz.func97 kr rfl)
     (sE (n-1) w wb w1.heap.size a1 n1 c1 d.secs hBb hcB om H128.out H.out.secs) uu (uv om) (Below.refl _ _) (fun _=>rfl)
     (oL w (w.heap.size+1) n1 w1.heap.size (.slice a1 n1 c1)) (fun s W W' hi hk hb=>hi.kept hk hb om) (fun x y W W' hr hk=>gD hr hk) ⟨none,0,0,[],hx1,hxb,World.ownsRow_nil _ _ _ _,⟨rfl,fun i b hb=>by simp at hb⟩,hBb⟩
     (fun x=>{ tmps:=#[.agg #[.slice a1 n1 c1,.slice a2 0 c2,.int .i64 d.left,.bool false],.pointer (some ⟨w.heap.size,0,none⟩),.pointer (some ⟨w.heap.size+1,0,none⟩),.int .i64 0,.int .i64 0,undef,.slice x.2.1 x.2.2.1 x.2.2.2,.agg #[.slice a1 n1 c1,.slice a2 0 c2,.int .i64 d.left,.bool false],.int .i64 0,.int .i64 0,.bool false,undef,undef,.pointer (some ⟨w.heap.size,3,none⟩),.bool false,undef,.pointer (some ⟨w.heap.size,1,none⟩),.slice a2 0 c2,.int .i64 0,.bool false,undef,.pointer (some ⟨w.heap.size,0,none⟩),.slice a1 n1 c1,.int .i64 n1,.pointer (some ⟨w.heap.size+1,1,none⟩),.pointer (some ⟨w.heap.size,0,none⟩),.slice a1 n1 c1,.func (.func 97) #[] #[.pointer (some ⟨w1.heap.size,0,none⟩)],.int .i64 x.1,.slice x.2.1 x.2.2.1 x.2.2.2,undef,undef,undef,undef,undef,undef,undef,undef,undef,undef,undef],defers:=[] })
     ?assign ?body ?done
    case assign =>
     rintro l x W K hK
     have HK:=aa hK
     clear hK
     simp only[ym]
     gi_wp2
     exact HK.out
    case body =>
     rintro l pre ⟨nx,xa,xm,xc⟩ y post W hys ⟨va,m,vc,vs,q0,q1,q2,q3,q4⟩ hr
     have hlen:pre.length<100:=by
      have e1:=mU d.secs
      have e2:d.secs.length=n1:=H.out.secs.len
      rw[hys]at e1
      simp at e1
      omega
     have hm:m<100:=by have:=q2.1;have:=q3.1;omega
     obtain⟨xl,r0,r1,r2,⟨i0,i1,i2⟩,y0,y1,y2⟩:=aJ (Below.refl _ W) q1
     have Q0:=aa q0
     have Q1:=aa q1
     have Q2:=aa q2
     have Q3:=aa q3
     have HR:=aa hr
     obtain⟨j0,hi,hz0,hz1,hz2⟩:=info_parts nN
     have hsw:=q4.size
     clear q0 q1 q2 q3 hr hys
     have h5535:(24:TypeId)≠40:=by decide
     dsimp only
     gi_wp2_with (gi_at_builtin;refine wpListIn_append_own _ rfl _ _ 22 rfl w.heap.size 40 j0 (.slice none 0 0) 1 24 Tryz.underlying22 hi hz0 hz1 hz2 rfl (by decide) (.slice va m vc) m vs rfl (Q2.out.alloc _) ⟨W.heap.size,0,none⟩ 1 1 [.slice xa xm xc] rfl rfl ?c1 ?c2 ?c3 ?c4 ?c5 ?_;rotate_right;intro v' w3 hown hgrow _;obtain⟨va2,vc2,rfl⟩:=ft hown;have hx3:=jJ Q1.out Q2.out h5535 hgrow;obtain⟨_,r0,r1,r2,⟨i0,i1,i2⟩,y0,y1,y2⟩:=aJ (Below.refl _ w3) hx3;have HOWN:=aa hown;have HGROW:=aa hgrow;have HX3:=aa hx3;clear hown hgrow hx3)
     case c1 =>
      intro j u hu
      rw[Addr.add_lit,Nat.zero_add,dz _ _ rfl]
      simpa using hu
     case c2=>simp[Value.oneCell']
     case c3=>unfold maxLen;omega
     case c4=>omega
     case c5=>simp;omega
     exact eY om Q0.out Q1.out Q2.out Q3.out q4 HR.out HOWN.out HGROW.out
    case done =>
     rintro D W hD ⟨va,m,vc,vs,q0,q1,q2,q3,q4⟩ hK
     obtain⟨xl,r0,r1,r2,⟨i0,i1,i2⟩,y0,y1,y2⟩:=aJ (Below.refl _ W) q1
     have Q1:=aa q1
     have Q2:=aa q2
     have Q3:=aa q3
     have HK:=aa hK
     have hlen:m<=100:=by
      have e1:=mU d.secs
      have e2:d.secs.length=n1:=H.out.secs.len
      have:=q2.1
      have:=q3.1
      omega
     clear q0 q1 q2 q3 hK
     gi_wp2
     obtain⟨WF,hWF⟩:∃WF,((((W.setCell ⟨w.heap.size+1,2,none⟩ (.int .i64 m)).setCell ⟨w.heap.size+1,0,none⟩ (.slice va m vc)).setCell ⟨w.heap.size+1,1,none⟩ (.int .i64 n1)).setCell ⟨w.heap.size+1,2,none⟩ (.int .i64 m))=WF:=⟨_,rfl⟩
     rw[hWF]
     have hxF:WF.heap[w.heap.size+1]? = some (.cells #[.slice va m vc,.int .i64 n1,.int .i64 m] 24 (0,0)):=by
      rw[<-hWF]
      have:=ax (ax (ax (ax Q1.out 2 (.int .i64 m)) 0 (.slice va m vc)) 1 (.int .i64 n1)) 2 (.int .i64 m)
      simpa using this
     have hDX:D≠w.heap.size+1:=om
     have hkF:WF.heap[D]? = some (.deferred (some [])):=by
      rw[<-hWF]
      exact(Below.heap_setCell _ _ _ D (by simpa using hDX)).trans ((Below.heap_setCell _ _ _ D (by simpa using hDX)).trans ((Below.heap_setCell _ _ _ D (by simpa using hDX)).trans ((Below.heap_setCell _ _ _ D (by simpa using hDX)).trans HK.out)))
     have x1:=ax Q1.out 2 (.int .i64 m)
     have x2:=ax x1 0 (.slice va m vc)
     have x3:=ax x2 1 (.int .i64 n1)
     have hoF:WF.ownsRow w.heap.size 40 1 (.slice va m vc) m vs:=by
      rw[<-hWF]
      exact iX (iX (iX (iX Q2.out Q1.out (by decide)) x1 (by decide)) x2 (by decide)) x3 (by decide)
     have hrF:cF WF w.heap.size vs (bN d.secs):=by
      rw[<-hWF]
      exact(((Q3.out.boxed Q1.out (by decide)).boxed x1 (by decide)).boxed x2 (by decide)).boxed x3 (by decide)
     have hBF:Below w.heap.size w WF:=by
      rw[<-hWF]
      exact(((q4.setCell (p:=⟨w.heap.size+1,2,none⟩) (by simp) _).setCell (p:=⟨w.heap.size+1,0,none⟩) (by simp) _).setCell (p:=⟨w.heap.size+1,1,none⟩) (by simp) _).setCell (p:=⟨w.heap.size+1,2,none⟩) (by simp) _
     clear hWF x1 x2 x3
     have hck:CellsKept WF (WF.putObj D (.deferred none)):=.putObj WF _ hkF rfl
     have hxP:=hck.same _ _ _ _ hxF
     obtain⟨_,p0,p1,p2,_,_,_⟩:=aJ (Below.refl _ _) hxP
     refine⟨by simp,.inl ⟨_,_,rfl,run_takeDeferred hkF,?_⟩⟩
     refine⟨.tuple #[.agg #[.slice va m vc,.int .i64 n1,.int .i64 m],.int .i64 0],?_,zo HN.out (by rw[H.out.secs.len];exact hn) (gD hoF hck) (hrF.cellsKept hck) om (by rw[H.out.secs.len]) rfl,hBF.trans (belowK_b (w:=w) (Nat.le_refl _) WF D _ (.deferred none) om hkF rfl rfl)⟩
     simp[results,Tryz.f23,go_sem,p0,p1,p2]
   ·have HN:=aa (nZ hok hst (by rw[H.out.pend.len];omega))
    rw[hst]at b3
    clear hok hst
    gi_wp2
    refine⟨_,?_,nD HN.out,by go_grown⟩
    simp[results,Tryz.f23,go_sem,r0,r1,r2]
  ·have HN:=aa (lh hok hst)
   rw[hst]at b3
   clear hok hst
   gi_wp2
   refine⟨_,?_,nD HN.out,by go_grown⟩
   simp[results,Tryz.f23,go_sem,r0,r1,r2]
theorem rN (a1:Option Addr)(n1 c1:Nat)(a2:Option Addr)(n2 c2:Nat)(d:aj)(w:World)(hn:d.okB=true->n1<=100)(h:bF Nz w a1 n1 c1 a2 n2 c2 d) :
  Calls Tryz.prog 23 #[.agg #[.slice a1 n1 c1,.slice a2 n2 c2,.int .i64 d.left,.bool d.stopped]] w fun e w'=>kz w.heap.size e w' (ci d).1 (ci d).2/\Below w.heap.size w w':=
 callsIn_wide.1 (sU 3 (Nat.le_refl _) a1 n1 c1 a2 n2 c2 d w hn h)
end Go.Proofs.YtmflnpdmlfmcpaaGreatDoor
namespace Go.Proofs.YtmflnpdmlfmcpaaGreatDoor
open Go.RowKit
variable {Nz : Nat}
def cz (l:List (List UInt8)):Nat:=l.foldl (fun z b=>max z (max (bH b) (cQ b))) 0
theorem xt (l:List (List UInt8))(k:Nat)(b:List UInt8)(h:l[k]? = some b):cz (l.take (k+1))=max (cz (l.take k)) (max (bH b) (cQ b)):=by
 unfold cz
 rw[cp l k b h,List.foldl_append]
 rfl
theorem rO {b:List UInt8}(h:b.length=128):cQ b<4294967296:=by
 have h1:=mb (b.drop 124)
 rw[show (b.drop 124).length=4 by simp;omega]at h1
 exact h1
theorem tM {l:List (List UInt8)}(h:∀b ∈ l,b.length=128):cz l<4294967296:=by
 have gen:∀(l:List (List UInt8)) (z:Nat),z<4294967296->(∀b ∈ l,b.length=128)->l.foldl (fun z b=>max z (max (bH b) (cQ b))) z<4294967296:=by
  intro l
  induction l with
  | nil=>intro z hz _;exact hz
  | cons b l ih =>
   intro z hz hl
   have h1:=tt (hl b List.mem_cons_self)
   have h2:=rO (hl b List.mem_cons_self)
   refine ih _ ?_ (fun x hx=>hl x (List.mem_cons_of_mem _ hx))
   show max z (max (bH b) (cQ b))<_
   omega
 exact gen l 0 om h
theorem C7 (a:Option Addr)(n c:Nat)(l:List (List UInt8))(w:World)(hn:n<=4096)(hl:∀b ∈ l,b.length=128)(h:Sl 1 (aN Nz) w a n l) :
  Calls Tryz.prog 67 #[.slice a n c] w fun e w'=>e=.returned (.int .u64 ((cz l+1:Nat):Int))/\Below w.heap.size w w':=by
 have HL:=aa h.len
 have HB:=aa hl
 have HS:=aa h
 clear h hl
 go_enter Tryz.func67,Tryz.ntmps67
 go_wp2
 go_loopw [3,4] (fun s3 s4 wr=>∃k:Nat,k<=n/\s4=.int .i64 k/\s3=.int .u64 (cz (l.take k))/\Below w.heap.size w wr) (fun _ s4 _=>n-(intOf s4).toNat)
 case atStart=>exact⟨0,Nat.zero_le _,rfl,rfl,Below.refl _ _⟩
 case round =>
  obtain⟨k,hk,rfl,rfl,hB⟩:=hrel
  by_cases hlt:k<n
  ·obtain⟨s,hx⟩:=av HL.out hlt
   obtain⟨b0,off,f,o,xc,rfl,hcell,hxc,hss⟩:=pf (HS.out.below aN.keeps hB) HB.out hx
   have hsl:s.length=128:=hss.len
   have hts:=xt l k s hx
   have htl:=tM (l:=l.take k) (fun b hb=>HB.out b (List.mem_of_mem_take hb))
   obtain⟨u,hu⟩:=zg (cz (l.take k))
   obtain⟨gs,hgs⟩:=zg (bH s)
   obtain⟨ts,hts2⟩:=zg (cQ s)
   have hgl:gs<4294967296:=by rw[hgs];exact tt hsl
   have htl2:ts<4294967296:=by rw[hts2];exact rO hsl
   have A0:Hid (∀(c':Nat) z,Calls Tryz.prog 104 #[.slice (some ⟨f,o,none⟩) 4 c'] (wr.drewN z) fun e w'=>e=.returned (.int .u64 gs)/\w'=wr.drewN z):=fun c' z=>by
    rw[hgs]
    exact(kD _ 4 c' (s.take 4) _ om (gQ (hss.below ai.keeps (below_drewN (Below.refl _ wr) z)) 0 4 om)).mono fun _ _ ⟨h1,h2⟩=>⟨h1,h2.symm⟩
   have A1:Hid (∀(c':Nat) z,Calls Tryz.prog 104 #[.slice (some ⟨f,o+124,none⟩) 4 c'] (wr.drewN z) fun e w'=>e=.returned (.int .u64 ts)/\w'=wr.drewN z):=fun c' z=>by
    have h1:(s.drop 124).take 4=s.drop 124:=List.take_of_length_le (by simp;omega)
    rw[hts2,cQ,<-h1]
    exact(kD _ 4 c' _ _ om (gQ (hss.below ai.keeps (below_drewN (Below.refl _ wr) z)) 124 4 om)).mono fun _ _ ⟨h1,h2⟩=>⟨h1,h2.symm⟩
   rw[<-hu]at hts htl ⊢
   rw[<-hgs,<-hts2]at hts
   have HT:=aa hts
   have k0:(0:Int)<=(k:Int):=om
   have k1:(k:Int)<(n:Int):=om
   clear hx hss hsl hts hgs hts2 hu
   go_wp2_with fail
   go_quiet ((go_at_call 104;first|with_reducible exact Calls.quiet_of_same (A0.out _ _)|with_reducible exact Calls.quiet_of_same (A1.out _ _)))
   go_wp2
   exact⟨⟨k+1,om,by go_num,by rw[HT.out];congr 1;(repeat' split)<;>omega,below_drewN hB nq⟩,by simp[intOf];omega⟩
  ·obtain rfl:k=n:=om
   rw[List.take_of_length_le (by have:=HL.out;omega)]
   have htl:=tM HB.out
   obtain⟨u,hu⟩:=zg (cz l)
   rw[<-hu]at htl
   have HU:=aa hu
   rw[<-hu]
   clear hu HS
   go_wp2
   go_ret
   exact⟨bY (by have:=HU.out;omega),hB⟩
end Go.Proofs.YtmflnpdmlfmcpaaGreatDoor
