/- Joined texts. -/
import Derived.Test.YtmflnpdmlfmcpaaGreatDoorJp13
import Derived.CallsIn
import Derived.BigRegionIn
set_option maxRecDepth 100000
set_option maxHeartbeats 8000000
namespace Go.Proofs.YtmflnpdmlfmcpaaGreatDoor.Dr
open Go.RowKit Go.Shelf
attribute [local go_sem] Oper.semAt_some
def fl (l:List ar)(k:Nat):Bool:=match l[k]?,l[0]? with
 | some x,some y=>decide (x.node=y.node) && decide (0<=x.node) && decide (x.node<24) && decide (x.no=k) && decide (x.data.length<=65536) && decide (x.prev=bR (l.take k))
 | _,_=>true
def bz (l:List ar):Int:=if 1024<l.length then 2 else if (List.range l.length).all (fl l) then 0 else 80
theorem wH (a:Option Addr)(n c:Nat)(w:World) :
  Calls Tryz.prog 102 #[.slice a n c] w fun e w'=>e=.returned (.func (.func 129) #[] #[.pointer (some ⟨w.heap.size,0,none⟩)])/\w'=w.alloc (.cells #[.slice a n c] 30):=by
 go_enter Tryz.func102,Tryz.ntmps102
 go_wp2
 go_ret
 exact⟨rfl,rfl⟩
theorem tw (a b:List UInt8)(ha:a.length=32)(hb:b.length=32)(W:World):(binOp .eql 48 (br a) (br b)).run Tryz.prog W=.ok (.bool (a == b)) W:=
 run_eql_bytes (P:=Tryz.prog) W 48 5 32 Tryz.underlying48 Tryz.underlying5 (fun w=>by kernel_rfl) a b ha hb
theorem AG (a b:List UInt8)(ha:a.length=32)(hb:b.length=32)(W:World):(binOp .neq 48 (br a) (br b)).run Tryz.prog W=.ok (.bool (!(a == b))) W:=by
 have h1:=tw a b ha hb W
 unfold br at h1 ⊢
 rw[run_eql_struct]at h1
 rw[run_neq_struct]
 cases hq:(Op.equalIn 10000 48 (.agg (af a).toArray) (.agg (af b).toArray)).run Tryz.prog W with
 | ok r w' =>
  rw[hq]at h1
  simp only[Result.andThen_ok,Result.ok.injEq,Value.bool.injEq]at h1
  obtain⟨rfl,rfl⟩:=h1
  rfl
 | halt x w'=>rw[hq]at h1;simp[Result.andThen]at h1
theorem ot {o:Oper}{a:Act}{W:World}(x y:Operand)(ho:o.op=.binOp .neq 48 x y 48)(p q:List UInt8)(hx:a.eval x=br p)(hy:a.eval y=br q)(hp:p.length=32)(hq:q.length=32) :
  (execOp a.eval o).run Tryz.prog W=.ok (.value (.bool (!(p == q)))) W:=by
 have h:=AG p q hp hq W
 have hg:(eqGuard .neq 48 x y (br p) (br q)).run Tryz.prog W=.ok () W:=by
  unfold br
  exact run_eqGuard_agg _ _ _ _ _ _ _ kr
 unfold execOp
 simp only[ho,hx,hy,Sem.run_bind,Sem.run_pure,Result.andThen_ok,hg,h]
theorem bJ (l:List UInt8):(af l).length=l.length:=by simp[af]
theorem dE {W:World}{X:Nat}{t:TypeId}{x:ar}{a:Option Addr}{n c:Nat}(h:ac W X t (ah x a n c)):W.rangeAt X 2 (af x.prev):=fun j v hv=>by
 have h1:=ac.cell h (j+2)
 cases hb:x.prev[j]? with
 | none=>simp[af,hb]at hv
 | some b =>
  rw[iN j b hb]at h1
  rw[cd hb]at hv
  rw[Nat.add_comm 2 j,h1,hv]
structure Dl (w:World)(X1 X2 X3:Nat)(a:Option Addr)(n c:Nat)(l:List ar)(pre:List Nat)(W:World):Prop where
 ok:∀j ∈ pre,fl l j=true
 x1:W.heap[X1]? = some (.cells #[.slice a n c] 30 (0,0))
 x2:W.heap[X2]? = some (.cells #[.int .i64 0] 31 (0,0))
 x3:W.heap[X3]? = some (.cells #[.int .i64 (pre.length:Nat)] 3 (0,0))
 b:Below w.heap.size w W
theorem Dl.kept {w W W':World}{X1 X2 X3 B:Nat}{a:Option Addr}{n c:Nat}{l:List ar}{pre:List Nat}(h:Dl w X1 X2 X3 a n c l pre W)(hk:CellsKept W W')(hB:Below B W W')(hs:w.heap.size<=B):Dl w X1 X2 X3 a n c l pre W':=
 ⟨h.ok,hk.same _ _ _ _ h.x1,hk.same _ _ _ _ h.x2,hk.same _ _ _ _ h.x3,h.b.trans (hB.mono hs)⟩
structure BJ (w:World)(X2:Nat)(l:List ar)(W:World):Prop where
 no:(List.range l.length).all (fl l)=false
 x2:W.heap[X2]? = some (.cells #[.int .i64 80] 31 (0,0))
 b:Below w.heap.size w W
theorem uu {B X:Nat}{W1 W2 W3:World}(h:km B X W1 W2)(k:km B X W2 W3):km B X W1 W3:=⟨h.1.trans k.1,fun v hv=>k.2 v (h.2 v hv)⟩
theorem uv {B X:Nat}{w:World}(hB:B<=w.heap.size)(W:World)(l:Nat)(o o':Obj)(hl:w.heap.size<=l)(h:W.heap[l]? = some o)(ho:o.isCells=false)(hw:o.isWalk=false):km B X W (W.putObj l o'):=
 ⟨belowK_b hB W l o o' hl h ho hw,fun _ hv=>(CellsKept.putObj W o' h ho).cell hv⟩
def CD (B X1 X2 X3 X4:Nat)(a:Option Addr)(n c:Nat)(l:List ar)(f:Nat->List Value)(k:Nat)(a':Act)(W:World):Prop:=
 ∃B1 B2,B<=B1/\B<=B2/\ac W B1 50 (f k)/\ac W B2 48 (af (bR (l.take k))) /\
  a'={ tmps:=#[.slice a n c,.pointer (some ⟨X1,0,none⟩),.pointer (some ⟨X2,0,none⟩),.pointer (some ⟨X3,0,none⟩),.pointer (some ⟨B1,0,none⟩),.pointer (some ⟨B2,0,none⟩),.slice a n c,.int .i64 n,.bool false,.slice a n c,.func (.func 129) #[] #[.pointer (some ⟨X4,0,none⟩)],.agg (f k).toArray,br (bR (l.take k)),undef,undef,undef,undef,undef,undef,undef,undef,undef,undef,undef,undef,undef,undef,undef,undef,undef,undef,undef,undef,undef,undef,undef,undef,undef,undef,undef,undef,undef,undef,undef,undef,undef,undef,undef,undef,undef],defers:=[] }
theorem yM (n':Nat)(hn3:3<=n')(a:Option Addr)(n c:Nat)(l:List ar)(w:World)(hn:n<=100000)(hnc:n<=c)(hi:dV w)(h:Sl 35 aq w a n l)(hd:∀x ∈ l,x.data.length<=100000) :
  CallsIn Fence.wide n' Tryz.prog 61 #[.slice a n c] w fun e w'=>e=.returned (.int .i64 (bz l))/\Below w.heap.size w w':=by
 have h1:1<=n':=om
 have hro:Fence.wide.round=none:=rfl
 have h48:Fence.wide.fn 102:=trivial
 have h68:Fence.wide.fn 129:=trivial
 have H:=aa h
 have HI:=aa hi
 have HD:=aa hd
 have HL:=aa h.len
 clear h hi hd
 refine callsIn_of_wp_marks Tryz.func61 rfl trivial ?_ hro
 simp only[Tryz.ntmps61,List.size_toArray,List.length_cons,List.length_nil,Nat.reduceAdd,Nat.reduceSub,Array.replicate_succ,Array.replicate_zero,List.push_toArray,List.append_toArray,List.nil_append,List.cons_append]
 by_cases hbig:1024<n
 ·have hb2:(1024:Int)<(n:Int):=om
  have hM:bz l=2:=by unfold bz;rw[HL.out,if_pos hbig]
  rw[hM]
  clear hM
  gi_wp2
  refine⟨.int .i64 2,?_,rfl,by go_grown⟩
  simp[results,Tryz.f61,go_sem]
 ·have hb2:¬(1024:Int)<(n:Int):=om
  obtain⟨r,hr⟩:=zg (bz l)
  rw[<-hr]
  have HRR:=aa hr
  clear hr
  gi_wp2_with (gi_at_call 102;refine CallsIn.mono (callsIn_wide.2 (wH _ _ _ _)) ?_;rintro e w2 ⟨rfl,rfl⟩)
  obtain⟨f,hf⟩:=wD H.out
  have HF:=aa hf
  obtain⟨X1,hX1⟩:=zg w.heap.size
  obtain⟨X2,hX2⟩:=zg (w.heap.size+1)
  obtain⟨X3,hX3⟩:=zg (w.heap.size+1+1)
  obtain⟨X4,hX4⟩:=zg (w.heap.size+1+1+1)
  obtain⟨w2,hw2⟩:=zg ((((w.alloc (.cells #[.slice a n c] 30)).alloc (.cells #[.int .i64 0] 31)).alloc (.cells #[.int .i64 0] 3)).alloc (.cells #[.slice a n c] 30))
  rw[<-hw2,<-hX4,<-hX3,<-hX2,<-hX1]
  have hB2:Below w.heap.size w w2:=by rw[hw2];exact((((Below.refl _ w).alloc (Nat.le_refl _) _).alloc (by simp) _).alloc (by simp;omega) _).alloc (by simp;omega) _
  have hs2:w.heap.size+1+1+1+1<=w2.heap.size:=by rw[hw2];simp
  have hx1:w2.heap[X1]? = some (.cells #[.slice a n c] 30 (0,0)):=by rw[hw2,hX1];exact aB _ (aB _ (aB _ (ak _ rfl)))
  have hx2:w2.heap[X2]? = some (.cells #[.int .i64 0] 31 (0,0)):=by rw[hw2,hX2];exact aB _ (aB _ (ak _ (by simp)))
  have hx3:w2.heap[X3]? = some (.cells #[.int .i64 ((([]:List Nat).length:Nat):Int)] 3 (0,0)):=by rw[hw2,hX3];exact aB _ (ak _ (by simp))
  have hx4:w2.cell? ⟨X4,0,none⟩=some (.slice a n c):=by rw[hw2,dz _ _ (by simp[hX4])];rfl
  have h12:X1<w2.heap.size/\X2<w2.heap.size/\X3<w2.heap.size/\w.heap.size<=X2/\w.heap.size<=X3/\X2≠X3/\X1≠X2/\X1≠X3/\X3≠X4/\X2≠X4:=om
  have H12:=aa h12
  clear hw2 hf h12 hX1 hX2 hX3 hX4
  refine nu hro h1 (gf:=129) (lb:=#[.pointer (some ⟨X4,0,none⟩)]) rfl h68 (enters_of Tryz.func129 kr rfl)
   (wE (n'-1) w w2 X4 a n c l f hB2 hx4 hn hnc HI.out HD.out H.out HF.out) uu (uv om) (fun W W' hs hb=>⟨hb.mono om,fun v hv=>ag hb hv⟩) (Below.refl _ _) (fun _=>rfl)
   (Dl w X1 X2 X3 a n c l) (BJ w X2 l) (fun s W W' hi hk hb=>hi.kept hk hb om) (fun W W' hi hk hb=>⟨hi.no,hk.same _ _ _ _ hi.x2,hi.b.trans (hb.mono om)⟩) ⟨(fun _ hj=>nomatch hj),hx1,hx2,hx3,hB2⟩
   (CD w2.heap.size X1 X2 X3 X4 a n c l f) (fun k a' W W' ⟨B1,B2,q1,q2,q3,q4,q5⟩ hk=>⟨B1,B2,q1,q2,hk.same _ _ _ _ q3,hk.same _ _ _ _ q4,q5⟩)
   ?assign ?body ?done ?stop
  case assign =>
   rintro lp pre k post W K hys hI hsw hK
   have HK:=aa hK
   obtain⟨rfl,hkn⟩:=mO hys
   clear hK hys hI
   simp only[ii]
   have hl35:=aa ((dI (l.take k)))
   obtain⟨x,hx⟩:=av HL.out hkn
   obtain⟨hf35,hfl⟩:(f k).length=35/\aq w (f k) x:=by
    rcases HF.out with h0|⟨b,off,_,hc⟩
    ·omega
    ·exact⟨(hc k x hx).1,(hc k x hx).2.1⟩
   obtain⟨L,hL⟩:=zg (f k)
   rw[<-hL]at hf35 hfl ⊢
   have hone:L.toArray.all (·.oneCell')=true:=by
    obtain⟨da,dn,dc,e,_⟩:=hfl
    rw[e];exact bM x da dn dc
   have HONE:=aa hone
   have HI37a:Hid ((Tryz.prog.info? 50).map (·.size)=some L.toArray.size):=by show _=_;rw[List.size_toArray,hf35];exact jg
   have H35:Hid (35=L.toArray.size):=by show _=_;rw[List.size_toArray,hf35]
   have HLL:=aa hL
   obtain⟨D2,hD2,hdv2,hi2,ho2,hs2'⟩:=ez (bR (l.take k)) (dI _)
   rw[hdv2]
   have HV2:=aa hdv2
   have HI2:=aa hi2
   have HO2:=aa ho2
   have HS2:=aa hs2'
   have HD2:=aa hD2
   clear hD2 hdv2 hi2 ho2 hs2' hL hone hf35 hfl hx
   refine wpIn_seq ?_
   refine fT (eY lp) kr (fun ⟨_,_,hq⟩=>hq) ?_
   go_wp2_with (refine wpList_store_row rfl 50 (.tmp 4) (.tmp 11) rfl W.heap.size L.toArray ?e2 ?e3 50 zH (heap_alloc_new W _) HI37a.out ?e4 HONE.out ?_;(case e2=>rfl);(case e3=>rfl);(case e4=>exact H35.out))
   have hx2:ac ((W.alloc (.cells zH 50)).setRow W.heap.size L.toArray) W.heap.size 50 L:=setRow_heap _ _ _ _ _ _ (heap_alloc_new W _)
   have hS2:Below W.heap.size W ((W.alloc (.cells zH 50)).setRow W.heap.size L.toArray):=bf _ _ _
   generalize (W.alloc (.cells zH 50)).setRow W.heap.size L.toArray=V at *
   obtain⟨B1,hB1⟩:=zg W.heap.size
   rw[<-hB1]at hx2 ⊢
   have h1B:w2.heap.size<=B1:=om
   clear hB1
   refine fT (eY lp) kr (fun ⟨_,_,hq⟩=>hq) ?_
   simp only[Act.put]
   have hsz:Hid ((af (List.replicate 32 0)).toArray.size=32):=by simp[Hid,af]
   go_wp2_with (refine wpList_store_row rfl 48 (.tmp 5) (.tmp 12) rfl V.heap.size D2 ?e2 ?e3 48 zI (heap_alloc_new V _) HI2.out ?e4 HO2.out ?_;(case e2=>rfl);(case e3=>rfl);(case e4=>exact hsz.out.trans HS2.out.symm))
   have hx5:ac ((V.alloc (.cells zI 48)).setRow V.heap.size D2) V.heap.size 48 (af (bR (l.take k))):=by
    have h9:((V.alloc (.cells zI 48)).setRow V.heap.size D2).heap[V.heap.size]? = some (.cells D2 48 (0,0)):=setRow_heap _ _ _ _ _ _ (heap_alloc_new V _)
    unfold ac
    rw[HD2.out]at h9 ⊢
    exact h9
   have hS5:Below V.heap.size V ((V.alloc (.cells zI 48)).setRow V.heap.size D2):=bf _ _ _
   generalize (V.alloc (.cells zI 48)).setRow V.heap.size D2=V2 at *
   have hVs:=hS2.size
   simp only[Act.put]
   exact HK.out _ _ (hS2.trans (hS5.mono hS2.size)) ⟨B1,V.heap.size,h1B,om,by rw[<-HLL.out];exact hx2.below hS5 hx2.lt,hx5,by rw[<-HLL.out,HV2.out]⟩
  case body =>
   rintro lp pre k post a' W hys hI ⟨B1,B2,q1,q2,q3,q4,rfl⟩
   obtain⟨rfl,hkn⟩:=mO hys
   obtain⟨x,hx⟩:=av HL.out hkn
   obtain⟨y,hy⟩:=av HL.out (show 0<n by omega)
   obtain⟨b,off,rfl,hfl,hy0⟩:∃b off,a=some ⟨b,off,none⟩/\aq w (f k) x/\w.cell? ⟨b,off,none⟩=some (.int .i64 y.node):=by
    rcases HF.out with h0|⟨b,off,h0,hc⟩
    ·omega
    ·obtain⟨_,⟨ya,yn,yc,e,_⟩,g3⟩:=hc 0 y hy
     refine⟨b,off,h0,(hc k x hx).2.1,?_⟩
     have:=g3 0 (.int .i64 y.node) (by rw[e];rfl)
     simpa using this
   obtain⟨da,dn,dc,hfe,hp,hi1,hi2,hdc,hsd⟩:=hfl
   have hdn:x.data.length=dn:=hsd.len
   have hok:fl l k=(decide (x.node=y.node) && decide (0<=x.node) && decide (x.node<24) && decide (x.no=k) && decide (x.data.length<=65536) && decide (x.prev=bR (l.take k))):=by
    unfold fl;rw[hx,hy]
   rw[hdn]at hok
   have OK:=aa hok
   have HII:=aa hI
   rw[hfe]at q3 ⊢
   have c0:W.drew.cell? ⟨B1,0,none⟩=some (.int .i64 x.node):=(ac.cell q3 0).trans (dj x da dn dc)
   have c1:W.drew.cell? ⟨B1,1,none⟩=some (.int .i64 x.no):=(ac.cell q3 1).trans (fi x da dn dc)
   have c34:W.drew.cell? ⟨B1,34,none⟩=some (.slice da dn dc):=(ac.cell q3 34).trans (em hp da dn dc)
   have cy:W.drew.cell? ⟨b,off,none⟩=some (.int .i64 y.node):=ag hI.b hy0
   have cX1:W.drew.cell? ⟨X1,0,none⟩=some (.slice (some ⟨b,off,none⟩) n c):=by show W.cell? _=_;simp[World.cell?,hI.x1]
   have cX3:W.drew.cell? ⟨X3,0,none⟩=some (.int .i64 k):=by show W.cell? _=_;simp[World.cell?,hI.x3]
   have cX2:W.drew.cell? ⟨X2,0,none⟩=some (.int .i64 0):=by show W.cell? _=_;simp[World.cell?,hI.x2]
   have fX2:W.drew.frozen? ⟨X2,0,none⟩=false:=by show W.frozen? _=_;simp[World.frozen?,hI.x2]
   have fX3:W.drew.frozen? ⟨X3,0,none⟩=false:=by show W.frozen? _=_;simp[World.frozen?,hI.x3]
   have Q3:=aa q3
   have Q4:=aa q4
   have k0:(0:Int)<(n:Int):=om
   have k0':0<n:=om
   obtain⟨pv,hpv⟩:=zg (bR (l.take k))
   have hpl:pv.length=32:=by rw[hpv];exact dI _
   have HPV:=aa hpv
   rw[<-hpv]
   clear hys hx hy hok hI hy0 hfe q3 q4 hsd hpv
   have hfail:fl l k=false->KeepsFrom w2.heap.size W (W.drew.setCell ⟨X2,0,none⟩ (.int .i64 80))/\BJ w X2 l (W.drew.setCell ⟨X2,0,none⟩ (.int .i64 80)):=fun h =>
    ⟨((KeepsOthers.drew W).trans (KeepsOthers.setCell _ _ _)).from _,List.all_eq_false.2 ⟨k,List.mem_range.2 (by rw[HL.out];exact hkn),by rw[h];simp⟩,one_setCell (w:=W.drew) HII.out.x2,HII.out.b.drew.setCell (p:=⟨X2,0,none⟩) (by have:=H12.out;simp;omega) _⟩
   have hgood:fl l k=true->KeepsFrom w2.heap.size W (W.drew.setCell ⟨X3,0,none⟩ (.int .i64 ((k:Int)+1)))/\km w.heap.size X4 W (W.drew.setCell ⟨X3,0,none⟩ (.int .i64 ((k:Int)+1)))/\Dl w X1 X2 X3 (some ⟨b,off,none⟩) n c l (List.range k++[k]) (W.drew.setCell ⟨X3,0,none⟩ (.int .i64 ((k:Int)+1))):=fun h=>by
    have hne:=H12.out
    refine⟨((KeepsOthers.drew W).trans (KeepsOthers.setCell _ _ _)).from _,⟨((Below.refl _ W).drew).setCell (p:=⟨X3,0,none⟩) (by simp;omega) _,fun v hv => ?_⟩,?_,?_,?_,?_,?_⟩
    ·exact(World.cell?_of_block (Below.heap_setCell _ _ _ X4 (by simp;omega))).trans hv
    ·intro j hj
     rcases List.mem_append.1 hj with h1|h1
     ·exact HII.out.ok j h1
     ·simp only[List.mem_singleton]at h1
      rw[h1];exact h
    ·exact(Below.heap_setCell _ _ _ X1 (by simp;omega)).trans HII.out.x1
    ·exact(Below.heap_setCell _ _ _ X2 (by simp;omega)).trans HII.out.x2
    ·have:=one_setCell (w:=W.drew) (u:=.int .i64 ((k:Int)+1)) HII.out.x3
     simpa using this
    ·exact HII.out.b.drew.setCell (p:=⟨X3,0,none⟩) (by simp;omega) _
   have HFAIL:=aa hfail
   have HGOOD:=aa hgood
   have ew:IntKind.i64.wrap ((k:Int)+1)=(k:Int)+1:=by rw[IntKind.wrap_i64];omega
   clear hfail hgood
   refine wpIn_block ?_
   refine wpIn_seq ?_
   refine wpIn_seq ?_
   refine mA (eY lp) kr kr kr (fun ⟨_,_,hq⟩=>hq) ?_
   change wpStill _ _ (World.drew W) _ _ _
   iterate 6 still_step
   by_cases d1:x.node=y.node
   case neg =>
    have e1:(x.node == y.node)=false:=by simpa using d1
    have e1':(x.node != y.node)=true:=by simpa using d1
    have D1:=aa d1
    clear d1
    repeat still_step
    refine wpStill_nil ?_
    gi_wp2
    exact HFAIL.out (by rw[OK.out,decide_eq_false D1.out];simp)
   have e1:(x.node == y.node)=true:=by simpa using d1
   have e1':(x.node != y.node)=false:=by simpa using d1
   have D1:=aa d1
   clear d1
   iterate 4 still_step
   by_cases d2:x.node<0
   case pos =>
    have e2:decide (x.node<0)=true:=decide_eq_true d2
    have D2:=aa (show x.node<0 by omega)
    clear d2
    repeat still_step
    refine wpStill_nil ?_
    gi_wp2
    exact HFAIL.out (by rw[OK.out,show decide (0<=x.node)=false from decide_eq_false (by have:=D2.out;omega)];simp)
   have e2:decide (x.node<0)=false:=decide_eq_false d2
   have D2:=aa (show 0<=x.node by omega)
   clear d2
   iterate 5 still_step
   by_cases d3:24<=x.node
   case pos =>
    have e3:decide (24<=x.node)=true:=decide_eq_true d3
    have D3:=aa (show 24<=x.node by omega)
    clear d3
    repeat still_step
    refine wpStill_nil ?_
    gi_wp2
    exact HFAIL.out (by rw[OK.out,show decide (x.node<24)=false from decide_eq_false (by have:=D3.out;omega)];simp)
   have e3:decide (24<=x.node)=false:=decide_eq_false d3
   have D3:=aa (show x.node<24 by omega)
   clear d3
   iterate 6 still_step
   by_cases d4:x.no=(k:Int)
   case neg =>
    have e4:(x.no == (k:Int))=false:=by simpa using d4
    have e4':(x.no != (k:Int))=true:=by simpa using d4
    have D4:=aa d4
    clear d4
    repeat still_step
    refine wpStill_nil ?_
    gi_wp2
    exact HFAIL.out (by rw[OK.out,decide_eq_false D4.out];simp)
   have e4:(x.no == (k:Int))=true:=by simpa using d4
   have e4':(x.no != (k:Int))=false:=by simpa using d4
   have D4:=aa d4
   clear d4
   iterate 6 still_step
   by_cases d5:65536<dn
   case pos =>
    have e5:decide ((65536:Int)<(dn:Int))=true:=decide_eq_true om
    have e5':(65536:Int)<(dn:Int):=om
    have D5:=aa (show 65536<dn by omega)
    clear d5
    repeat still_step
    refine wpStill_nil ?_
    gi_wp2
    exact HFAIL.out (by rw[OK.out,show decide (dn<=65536)=false from decide_eq_false (by have:=D5.out;omega)];simp)
   have e5:decide ((65536:Int)<(dn:Int))=false:=decide_eq_false om
   have e5':¬(65536:Int)<(dn:Int):=om
   have D5:=aa (show dn<=65536 by omega)
   clear d5
   iterate 4 still_step
   refine fB (br x.prev) rfl (aH 48 (.tmp 43) rfl B1 2 rfl (af x.prev) _ (dE Q3.out) Tryz.underlying48 rfl (by rw[bJ,hp];exact ey)) ?_
   simp only[Act.put,zA]
   have q4':ac (World.drew W) B2 48 (af pv):=by rw[HPV.out];exact Q4.out
   refine fB (br pv) rfl (aH 48 (.tmp 5) rfl B2 0 rfl (af pv) _ (ac.range q4') Tryz.underlying48 rfl (by rw[bJ,hpl];exact ey)) ?_
   simp only[Act.put,zA]
   refine fB (.bool (!(x.prev == pv))) rfl (ot (.tmp 44) (.tmp 45) rfl x.prev pv rfl rfl hp hpl) ?_
   simp only[Act.put,zA]
   by_cases d6:x.prev=pv
   case neg =>
    have e6:(x.prev == pv)=false:=by simpa using d6
    have D6:=aa (show ¬(x.prev=bR (l.take k)) by rw[<-HPV.out];exact d6)
    clear d6
    repeat still_step
    refine wpStill_nil ?_
    gi_wp2
    exact HFAIL.out (by rw[OK.out,decide_eq_false D6.out];simp)
   have e6:(x.prev == pv)=true:=by simpa using d6
   have D6:=aa (show x.prev=bR (l.take k) by rw[<-HPV.out];exact d6)
   clear d6
   repeat still_step
   refine wpStill_nil ?_
   gi_wp2
   exact HGOOD.out (by rw[OK.out,decide_eq_true D1.out,decide_eq_true D2.out,decide_eq_true D3.out,decide_eq_true D4.out,decide_eq_true D5.out,decide_eq_true D6.out];rfl)
  case done =>
   rintro D W hD hI hK
   have hx2:=hI.x2
   have HII:=aa hI
   have HK:=aa hK
   clear hI hK
   have hM:r=0:=by
    rw[HRR.out]
    unfold bz
    rw[HL.out,if_neg om,if_pos (List.all_eq_true.2 (fun j hj=>HII.out.ok j hj))]
   have HM:=aa hM
   clear hM
   have hlt2:=lt_of_block hx2
   have c2:W.cell? ⟨X2,0,none⟩=some (.int .i64 0):=by simp[World.cell?,hx2]
   have f2:W.frozen? ⟨X2,0,none⟩=false:=by simp[World.frozen?,hx2]
   have x2':(W.setCell ⟨X2,0,none⟩ (.int .i64 0)).heap[X2]? = some (.cells #[.int .i64 0] 31 (0,0)):=one_setCell hx2
   have hkF:(W.setCell ⟨X2,0,none⟩ (.int .i64 0)).heap[D]? = some (.deferred (some [])):=(Below.heap_setCell _ _ _ D (by simp;have:=H12.out;omega)).trans HK.out
   have hBF:Below w.heap.size w (W.setCell ⟨X2,0,none⟩ (.int .i64 0)):=HII.out.b.setCell (p:=⟨X2,0,none⟩) (by have:=H12.out;simp;omega) _
   have HX2:=aa x2'
   have HKF:=aa hkF
   clear hx2 x2' hkF
   gi_wp2
   have hck:CellsKept (W.setCell ⟨X2,0,none⟩ (.int .i64 0)) ((W.setCell ⟨X2,0,none⟩ (.int .i64 0)).putObj D (.deferred none)):=.putObj _ _ HKF.out rfl
   have hxP:=hck.same _ _ _ _ HX2.out
   have p0:((W.setCell ⟨X2,0,none⟩ (.int .i64 0)).putObj D (.deferred none)).cell? ⟨X2,0,none⟩=some (.int .i64 0):=by simp[World.cell?,hxP]
   refine⟨by simp,.inl ⟨_,_,rfl,run_takeDeferred HKF.out,?_⟩⟩
   refine⟨.int .i64 0,?_,by rw[HM.out],hBF.trans (belowK_b (w:=w) (Nat.le_refl _) _ D _ (.deferred none) om HKF.out rfl rfl)⟩
   simp[results,Tryz.f61,go_sem,p0]
  case stop =>
   rintro D W hD hI hK
   have HII:=aa hI
   have HK:=aa hK
   have hM:r=80:=by
    rw[HRR.out]
    unfold bz
    rw[HL.out,if_neg om]
    have:=HII.out.no
    rw[HL.out]at this
    rw[this];rfl
   have hxP:=(CellsKept.putObj W (.deferred none) HK.out rfl).same _ _ _ _ HII.out.x2
   have p0:(W.putObj D (.deferred none)).cell? ⟨X2,0,none⟩=some (.int .i64 80):=by simp[World.cell?,hxP]
   have HM:=aa hM
   have HP:=aa p0
   clear hI hK hM hxP p0
   gi_wp2
   refine⟨by simp,.inl ⟨_,_,rfl,run_takeDeferred HK.out,?_⟩⟩
   have p0:=HP.out
   refine⟨.int .i64 80,?_,by rw[HM.out],HII.out.b.trans (belowK_b (w:=w) (Nat.le_refl _) _ D _ (.deferred none) om HK.out rfl rfl)⟩
   simp[results,Tryz.f61,go_sem,p0]
theorem gI (a:Option Addr)(n c:Nat)(l:List ar)(w:World)(hn:n<=100000)(hnc:n<=c)(hi:dV w)(h:Sl 35 aq w a n l)(hd:∀x ∈ l,x.data.length<=100000) :
  Calls Tryz.prog 61 #[.slice a n c] w fun e w'=>e=.returned (.int .i64 (bz l))/\Below w.heap.size w w':=
 callsIn_wide.1 (yM 3 (Nat.le_refl _) a n c l w hn hnc hi h hd)
end Go.Proofs.YtmflnpdmlfmcpaaGreatDoor.Dr
