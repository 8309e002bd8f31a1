/- Joined texts. -/
import Derived.Test.YtmflnpdmlfmcpaaGreatDoorJp05
import Derived.Test.YtmflnpdmlfmcpaaGreatDoorJp06
set_option maxRecDepth 100000
set_option maxHeartbeats 4000000
namespace Go.Proofs.YtmflnpdmlfmcpaaGreatDoor
open Go.RowKit
variable {Nz : Nat}
theorem DT {w w2:World}{x:Obj}{k n c:Nat}(hgrow:(w.alloc x).drew.grownBy w2 (Value.slice (some ⟨k,0,none⟩) n c).ownBlock)(hk:w.heap.size<=k):Below w.heap.size w w2:=
 (((Below.refl _ w).alloc (Nat.le_refl _) x).drew).grown hgrow (by show _<=(w.alloc x).heap.size;simp) (fun k e=>by cases e;exact hk)
theorem Dz {d:aj}{L:Nat}{x:Int × List UInt8}(hr:d.runs=true)(hok:d.okB=true)(hf:0<=d.left/\d.left<d.pend.length)(hL:d.left.toNat=L)(hx:d.pend[L]? = some x) :
  ∃s,(a9 d.secs (d.pend.take L))[x.1.toNat]? = some s/\s.length=128/\d.sync=(⟨(a9 d.secs (d.pend.take L)).set x.1.toNat (x.2.take 64++s.drop 64),[],0,true⟩,40):=by
 have hbad:=pd hok
 have hbs:=qR hok
 obtain⟨x1,x2,x3⟩:=hbad L x hx
 obtain⟨s,hs⟩:∃s,(a9 d.secs (d.pend.take L))[x.1.toNat]? = some s:=⟨_,List.getElem?_eq_getElem (by rw[fq];omega)⟩
 refine⟨s,hs,?_,?_⟩
 ·have gen:∀(l:List (Int × List UInt8)) (ss:List (List UInt8)),(∀y ∈ l,y.2.length=128)->(∀y ∈ ss,y.length=128)->∀y ∈ a9 ss l,y.length=128:=by
   intro l
   induction l with
   | nil=>intro ss _ h;exact h
   | cons q l ih =>
    intro ss h1 h2
    refine ih _ (fun y hy=>h1 y (List.mem_cons_of_mem _ hy)) (fun y hy => ?_)
    rcases List.mem_or_eq_of_mem_set hy with h|h
    ·exact h2 y h
    ·rw[h];exact h1 q List.mem_cons_self
  refine gen _ _ (fun y hy => ?_) (fun y hy => ?_) s (List.mem_of_getElem? hs)
  ·obtain⟨i,hi⟩:=List.mem_iff_getElem?.1 (List.mem_of_mem_take hy)
   exact(hbad i y hi).2.2
  ·obtain⟨i,hi⟩:=List.mem_iff_getElem?.1 hy
   exact hbs i y hi
 ·unfold aj.sync
  rw[if_pos hr,if_pos hf,hL]
  simp[List.getD,hx,hs]
theorem DA (a1:Option Addr)(n1 c1:Nat)(a2:Option Addr)(n2 c2:Nat)(d:aj)(w:World)(h:bF Nz w a1 n1 c1 a2 n2 c2 d)(hr:d.runs=true)(hf:0<=d.left/\d.left<n2) :
  Calls Tryz.prog 71 #[.agg #[.slice a1 n1 c1,.slice a2 n2 c2,.int .i64 d.left,.bool d.stopped]] w fun e w' =>
   (∃v,e=.returned (.tuple #[v,.int .i64 d.sync.2])/\eJ Nz w' v d.sync.1)/\Below w.heap.size w w':=by
 have H:=aa h
 have L1:=h.secs.len
 have L2:=h.pend.len
 have k2:=h.k2
 obtain⟨hok,hst⟩:=fh hr
 obtain⟨z1,z2,z3⟩:=ls hok
 have hbad:=pd hok
 have hbs:=qR hok
 have hck:=aj.check_ok hok
 rw[L1]at z1 z2 hbad
 rw[L2]at z3
 obtain⟨L,hL⟩:=Int.eq_ofNat_of_zero_le hf.1
 have hLn:L<n2:=om
 obtain⟨x,hx⟩:=av L2 hLn
 obtain⟨s,hs,hs128,hrd⟩:=Dz hr hok (by rw[L2];exact hf) (by rw[hL];rfl) hx
 obtain⟨x1,x2,x3⟩:=hbad L x hx
 obtain⟨p,hp⟩:=Int.eq_ofNat_of_zero_le x1
 have hpn:p<n1:=om
 have e2:x.1.toNat=p:=by rw[hp];rfl
 rw[e2]at hrd hs
 have HRD:=aa hrd
 obtain⟨b1',o1',rfl⟩:∃b o,a1=some ⟨b,o,none⟩:=by
  rcases h.secs.secs with h0|⟨b,o,h0,_⟩
  ·omega
  ·exact⟨b,o,h0⟩
 obtain⟨b2',o2',rfl,hw2⟩:∃b o,a2=some ⟨b,o,none⟩/\∀(k:Nat) y,d.pend[k]? = some y->∃xa xc,Sl 1 ai w xa 128 y.2/\w.cell? ⟨b,o+k*2,none⟩=some (.int .i64 y.1)/\w.cell? ⟨b,o+k*2+1,none⟩=some (.slice xa 128 xc)/\128<=xc:=by
  rcases h.pend.writes with h0|⟨b,o,h0,hc⟩
  ·omega
  ·refine⟨b,o,h0,fun k y hy => ?_⟩
   obtain⟨xa,xn,xc,q1,q2,q3,q4,q5⟩:=hc k y hy
   have hxn:xn=128:=by rw[<-(hbad k y hy).2.2,q3.len]
   rw[hxn]at q3 q5 q2
   exact⟨xa,xc,q3,q4,q5,q2⟩
 have HW2:=aa hw2
 have HBAD:=aa hbad
 have HLX:=aa hx
 have HXL:=aa x3
 have HPX:=aa hp
 have HS:=aa hs
 have HS8:=aa hs128
 have HL2:=aa L2
 have HR:Hid (∀W,Below w.heap.size w W->Calls Tryz.prog 62 #[.agg #[.slice (some ⟨b1',o1',none⟩) n1 c1,.slice (some ⟨b2',o2',none⟩) n2 c2,.int .i64 L,.bool false]] W fun e w'=>e=.returned (.int .i64 0)/\Below W.heap.size W w'):=fun W hW=>by
  have e:(L:Int)=d.left:=hL.symm
  rw[e,<-hst,<-hck]
  exact n6 _ _ _ _ _ _ _ _ (h.below hW)
 rw[show d.left=(L:Int) from hL,hst]
 obtain⟨vs0,hsv,hvl,hvc,hv1⟩:=vP h.secs
 have HSV:=aa hsv
 have HVC:=aa hvc
 have HVL:=aa hvl
 obtain⟨i0,hi,hz0,hz1,hz2⟩:=info_parts nN
 clear h hok hbad hbs L1 L2 hL hf hr hst hck hx x1 x2 x3 hp hs hs128 hsv hvc hvl hw2 hrd e2
 go_enter Tryz.func71,Tryz.ntmps71
 go_wp2_with fail
 refine(HR.out _ ?hb).mono ?_
 case hb=>go_grown
 rintro e w1 ⟨rfl,hB⟩
 obtain⟨bl,b0,b1,b2,b3,⟨_,i1,_,_⟩,_,y1,_⟩:=aF hB (aB _ (ak _ rfl))
 have HX1:Hid (w1.heap[w.heap.size]? = some (.cells #[.slice (some ⟨b1',o1',none⟩) n1 c1,.slice (some ⟨b2',o2',none⟩) n2 c2,.int .i64 L,.bool false] 27 (0,0))):=(hB.block _ (by simp;omega)).trans (aB _ (ak _ rfl))
 have HX2:Hid (w1.heap[w.heap.size+1]? = some (.cells zK 27 (0,0))):=(hB.block _ (by simp)).trans (ak _ (by simp))
 have rl:=lt_of_block HX2.out
 have hB1:Below w.heap.size w w1:=Below.trans (by go_grown) (hB.mono (by simp;omega))
 clear hB HR
 have HVW:Hid (∀W,Below w.heap.size w W->∀ad,some (⟨b1',o1',none⟩:Addr)=some ad->∀j u,vs0[j]? = some u->W.cell? (ad.add j)=some u):=fun W hW ad had j u hu=>ag hW (HVC.out ad had j u hu)
 have HO:Hid (∀(W:World) (S:Nat),w1.heap.size<=S->W.heap[S]? = some (.cells #[] 40 (0,0))->W.ownsRow w1.heap.size 40 1 (.slice (some ⟨S,0,none⟩) 0 0) 0 []):=fun W S hS hW=>⟨rfl,.inr ⟨S,0,#[],rfl,hS,hW,Nat.le_refl _,by unfold maxLen;omega,rfl,rfl⟩⟩
 go_upto_region 4 with (fail)
 go_cut [5] (fun s5 wx=>s5=.bool true/\wx=w1)
 case first =>
  go_wp2_with fail
  go_meet
  exact⟨rfl,rfl⟩
 case rest =>
 obtain⟨rfl,hwc⟩:=hcut
 rw[hwc]
 clear hwc
 go_upto_region 7 with (fail)
 go_cut [6] (fun s6 wx=>∃X va vc,s6=.pointer (some ⟨X,0,none⟩)/\Df w1 wx X va n1 vc vs0 L)
 case first =>
  go_region_held3 (fun W=>W.cell? ⟨w.heap.size,0,none⟩=some (.slice (some ⟨b1',o1',none⟩) n1 c1)/\W.cell? ⟨w.heap.size,2,none⟩=some (.int .i64 L))
   (first|exact⟨b0,b2⟩|go_keep|exact Eg om ⟨b0,b2⟩)
   (first
   | (refine iM rfl (.tmp 32) (.tmp 34) 22 rfl w1.heap.size 40 i0 (.slice none 0 0) 1 24 Tryz.underlying22 hi hz0 hz1 hz2 rfl (by decide) (.slice (some ⟨w1.heap.size,0,none⟩) 0 0) 0 [] ?e1 (HO.out _ _ (Nat.le_refl _) (ak _ rfl)) (some ⟨b1',o1',none⟩) n1 c1 vs0 ?e2 HVL.out (fun h=>by cases h) (HVW.out _ (by go_grown)) hv1 ?e3 ?e4 ?e5 ?_;(case e1=>simp[Act.eval]);(case e2=>simp[Act.eval]);(case e3=>(unfold maxLen;omega));(case e4=>omega);(case e5=>simp<;>omega);intro va vc w2 hown hgrow;have hBA:Below w1.heap.size w1 w2:=((Below.refl _ w1).drew.alloc (Nat.le_refl _) _).grown hgrow (by simp) (fun k e=>by cases e;exact Nat.le_refl _);have b0:=ag hBA b0;have b2:=ag hBA b2;rw[Nat.zero_add,List.nil_append]at hown;have HAw:=aa hown;clear hown)
   | (refine iM rfl (.tmp 32) (.tmp 34) 22 rfl w1.heap.size 40 i0 (.slice none 0 0) 1 24 Tryz.underlying22 hi hz0 hz1 hz2 rfl (by decide) (.slice (some ⟨w1.heap.size,0,none⟩) 0 0) 0 [] ?e1 (HO.out _ _ (Nat.le_refl _) (aB (w:=w1.alloc (.cells #[] 40)) (.cells zK 27) (ak _ rfl))) (some ⟨b1',o1',none⟩) n1 c1 vs0 ?e2 HVL.out (fun h=>by cases h) (HVW.out _ (by go_grown)) hv1 ?e3 ?e4 ?e5 ?_;(case e1=>simp[Act.eval]);(case e2=>simp[Act.eval]);(case e3=>(unfold maxLen;omega));(case e4=>omega);(case e5=>simp<;>omega);intro va vc w2 hown hgrow;have hBB:=CR hgrow (Nat.le_refl _);have hxb:=CY hgrow (ak (w:=w1.alloc (.cells #[] 40)) (n:=w1.heap.size+1) (.cells zK 27) (by simp)) om;obtain⟨_,r0,r1,r2,r3,⟨j0,j1,j2,j3⟩,z0,z1,z2,z3⟩:=aF (Below.refl _ w2) hxb;have b0:=ag hBB b0;have b2:=ag hBB b2;rw[Nat.zero_add,List.nil_append]at hown;have HBw:=aa hown;have HBx:=aa hxb;clear hown hxb)
   | (refine iM rfl (.tmp 32) (.tmp 34) 22 rfl w1.heap.size 40 i0 (.slice none 0 0) 1 24 Tryz.underlying22 hi hz0 hz1 hz2 rfl (by decide) (.slice (some ⟨w1.heap.size+1,0,none⟩) 0 0) 0 [] ?e1 (HO.out _ _ (Nat.le_succ _) (ak (w:=w1.alloc (.cells zK 27)) (.cells #[] 40) (by simp))) (some ⟨b1',o1',none⟩) n1 c1 vs0 ?e2 HVL.out (fun h=>by cases h) (HVW.out _ (by go_grown)) hv1 ?e3 ?e4 ?e5 ?_;(case e1=>simp[Act.eval]);(case e2=>simp[Act.eval]);(case e3=>(unfold maxLen;omega));(case e4=>omega);(case e5=>simp<;>omega);intro va vc w2 hown hgrow;have hBC:=CR hgrow (Nat.le_succ _);have hxb:=CY hgrow (aB (.cells #[] 40) (ak (w:=w1) (n:=w1.heap.size) (.cells zK 27) rfl)) om;obtain⟨_,r0,r1,r2,r3,⟨j0,j1,j2,j3⟩,z0,z1,z2,z3⟩:=aF (Below.refl _ w2) hxb;have b0:=ag hBC b0;have b2:=ag hBC b2;rw[Nat.zero_add,List.nil_append]at hown;have HCw:=aa hown;have HCx:=aa hxb;clear hown hxb))
  all_goals
   go_wp2_with fail
   go_meet
   first
    | exact⟨_,va,vc,rfl,DR hBA HAw.out L⟩
    | exact⟨_,va,vc,rfl,Dg hBB HBx.out (Nat.le_succ _) HBw.out L⟩
    | exact⟨_,va,vc,rfl,Dg hBC HCx.out (Nat.le_refl _) HCw.out L⟩
 case rest =>
 obtain⟨X,va,vc,rfl,hM⟩:=hcut
 obtain⟨hXb,hXc,hXo,hXB⟩:=hM
 obtain⟨g,vc',hva,hg,hgc⟩:=tp hXo om
 cases hva
 have HXC:=aa hXc
 have HXO:=aa hXo
 have hz1:=hXB.size
 clear hXc hXo hgc b0 b1 b2 b3
 go_wp2_with fail
 go_loopw [7] (fun s7 wr=>∃(k:Nat) (vs:List Value),k<=L/\s7=.int .i64 k/\wr.heap[X]? = some (.cells #[.slice (some ⟨g,0,none⟩) n1 vc,.slice none 0 0,.int .i64 L,.bool false] 27 (0,0)) /\
   wr.ownsRow w1.heap.size 40 1 (.slice (some ⟨g,0,none⟩) n1 vc) n1 vs/\cf Nz w vs (a9 d.secs (d.pend.take k))/\Below w1.heap.size w1 wr) (fun i _=>L-(intOf i).toNat)
 case atStart=>exact⟨0,vs0,Nat.zero_le _,rfl,HXC.out,HXO.out,HSV.out,hXB⟩
 case round =>
  obtain⟨k,vs,hk,rfl,hXc,hXo,hsv,hB⟩:=hrel
  have HXC:=aa hXc
  have HXO:=aa hXo
  have HSVk:=aa hsv
  clear hXc hXo hsv
  have hzr:=hB.size
  have hXl:=lt_of_block HXC.out
  have hgl:=(HXO.out.lt g rfl).2
  have hBr:Below w.heap.size w wr:=hB1.trans (hB.mono om)
  have hgX:g≠X:=by
   rintro rfl
   exact de HXO.out HXC.out (by decide) rfl
  by_cases hlt:k<L
  ·obtain⟨y,hy⟩:=av HL2.out (show k<n2 by omega)
   obtain⟨xa,xc,hxs,hcell0,hcell,xc'⟩:=HW2.out k y hy
   obtain⟨g1,g2,_⟩:=HBAD.out k y hy
   have s1:=ag hBr hcell0
   have s2:=ag hBr hcell
   have hf2:b2'<w.heap.size:=World.block_lt_of_cell? _ _ hcell0
   have HN:=aa (qu d.secs d.pend k y hy)
   have HX:Hid (aN Nz w [.slice xa 128 xc] y.2):=ti H.out.pend hy hcell
   obtain⟨q,hq⟩:=Int.eq_ofNat_of_zero_le g1
   rw[hq]at s1 g1 g2
   have HQ:=aa hq
   have hqn:q<n1:=om
   obtain⟨u0,hu0⟩:∃u0,vs[q]? = some u0:=⟨_,List.getElem?_eq_getElem (by have:=HXO.out.1;omega)⟩
   have hgc0:wr.cell? ⟨g,q,none⟩=some u0:=(HXO.out.cellAt q om).trans hu0
   have hgc:(wr.cell? ⟨g,q,none⟩).isSome=true:=by rw[hgc0];rfl
   have hgf:wr.frozen? ⟨g,q,none⟩=false:=HXO.out.frozenAt q
   obtain⟨_,t0,_,_,_,_,_⟩:=aF (Below.refl _ wr) HXC.out
   have b1:wr.cell? ⟨w.heap.size,1,none⟩=some (.slice (some ⟨b2',o2',none⟩) n2 c2):=(aF hB HX1.out).2.2.1
   have k0:(0:Int)<=(k:Int):=om
   have k1':(k:Int)<(n2:Int):=om
   have hwsz:w.heap.size<wr.heap.size:=om
   clear hu0 hy hxs hcell0 hcell hq
   go_wp2_with fail
   go_region_held3 (fun W=>W.cell? ⟨X,0,none⟩=some (.slice (some ⟨g,0,none⟩) n1 vc)/\W.cell? ⟨w.heap.size,1,none⟩=some (.slice (some ⟨b2',o2',none⟩) n2 c2)/\W.cell? ⟨b2',o2'+k*2,none⟩=some (.int .i64 q)/\W.cell? ⟨b2',o2'+k*2+1,none⟩=some (.slice xa 128 xc))
    (first|exact⟨qH (Ne.symm hgX) t0,qH (by show w.heap.size≠g;omega) b1,qH (by show b2'≠g;omega) s1,qH (by show b2'≠g;omega) s2⟩|go_keep)
    (first|fail)
   go_wp2
   go_roundw
   case rel =>
    refine⟨k+1,vs.set q (.slice xa 128 xc),om,by go_num,(Below.heap_setCell _ _ _ _ (by simpa using Ne.symm hgX)).trans HXC.out,(HXO.out.stored q _).1,?_,(hB.setCell (p:=⟨g,q,none⟩) hg _).drew⟩
    rw[HN.out,show y.1.toNat=q by rw[HQ.out];rfl]
    exact HSVk.out.set q HX.out
   case measure=>simp[intOf];omega
  ·obtain rfl:k=L:=om
   obtain⟨xa,xc,hxs,hc0,hc1,hxc⟩:=HW2.out k x HLX.out
   rw[HPX.out]at hc0
   have hb2l:b2'<w.heap.size:=World.block_lt_of_cell? _ _ hc0
   obtain⟨_,t0,t1,t2,t3,_,_⟩:=aF (Below.refl _ wr) HXC.out
   have b1:wr.cell? ⟨w.heap.size,1,none⟩=some (.slice (some ⟨b2',o2',none⟩) n2 c2):=(aF hB HX1.out).2.2.1
   have s1:=ag hBr hc0
   have s2:=ag hBr hc1
   have k0:(0:Int)<=(k:Int):=om
   have k1':(k:Int)<(n2:Int):=om
   have hwsz:w.heap.size<wr.heap.size:=om
   have hf2:b2'<wr.heap.size:=om
   obtain⟨u,hu,ua,un,uc,hue,hum,huc,hus,_⟩:=HSVk.out.2 p s HS.out
   simp only[List.cons.injEq,and_true]at hue
   subst hue
   have hun:un=128:=by rw[<-HS8.out,hus.len]
   subst hun
   have hcg:wr.cell? ⟨g,p,none⟩=some (.slice ua 128 uc):=(HXO.out.cellAt p om).trans hu
   have hcgf:wr.frozen? ⟨g,p,none⟩=false:=HXO.out.frozenAt p
   have hcgs:(wr.cell? ⟨g,p,none⟩).isSome=true:=by rw[hcg];rfl
   obtain⟨b3',o3',rfl⟩:∃b o,ua=some ⟨b,o,none⟩:=by
    rcases hus.2 with h0|⟨b,o,h0,_⟩
    ·omega
    ·exact⟨b,o,h0⟩
   obtain⟨b4',o4',rfl⟩:∃b o,xa=some ⟨b,o,none⟩:=by
    rcases hxs.2 with h0|⟨b,o,h0,_⟩
    ·omega
    ·exact⟨b,o,h0⟩
   obtain⟨fs1,fs2,fs3,fs4⟩:=bV hus
   have HFS:=aa (fs3 _ rfl)
   obtain⟨fx1,fx2,fx3,fx4⟩:=bV hxs
   have HFX:=aa (fx3 _ rfl)
   clear hxs hus hu hc0 hc1 fs1 fs2 fs3 fx1 fx2 fx3
   go_upto_region 14 with (fail)
   have hgw4:∀b o,wr.heap[b]? = some o->(wr.alloc (.cells #[.int .i64 p,.slice (some ⟨b4',o4',none⟩) 128 xc] 64)).heap[b]? = some o:=fun b o h=>aB _ h
   have hB4:Below wr.heap.size wr (wr.alloc (.cells #[.int .i64 p,.slice (some ⟨b4',o4',none⟩) 128 xc] 64)):=(Below.refl _ wr).alloc (Nat.le_refl _) _
   obtain⟨_,e0,e1,_,_,_,_⟩:=Bp (w:=wr.alloc (.cells #[.int .i64 p,.slice (some ⟨b4',o4',none⟩) 128 xc] 64)) (Below.refl _ _) (ak _ rfl)
   have hz4:(wr.alloc (.cells #[.int .i64 p,.slice (some ⟨b4',o4',none⟩) 128 xc] 64)).heap.size=wr.heap.size+1:=by simp
   generalize (wr.alloc (.cells #[.int .i64 p,.slice (some ⟨b4',o4',none⟩) 128 xc] 64))=w4 at *
   have HZ4:=aa hz4
   have hg4l:g<w4.heap.size:=om
   have hX4l:X<w4.heap.size:=om
   have hwr4:wr.heap.size<w4.heap.size:=om
   have t0:=ag hB4 t0
   have hcg:=ag hB4 hcg
   have HXC4:=aa (hgw4 _ _ HXC.out)
   have HXO4:=aa (cZ HXO.out (fun q hq=>hB4.block q (by simp[Value.ownBlock]at hq;omega)))
   have hcgf4:w4.frozen? ⟨g,p,none⟩=false:=HXO4.out.frozenAt p
   clear hgw4 b1 s1 s2 t1 t2 t3 hcgf hcgs hz4
   obtain⟨j0,hj,hy0,hy1,hy2⟩:=info_parts jv
   have HO5:Hid (∀(W:World),W.heap[w4.heap.size]? = some (.cells #[] 5 (0,0))->W.ownsRow w4.heap.size 5 1 (.slice (some ⟨w4.heap.size,0,none⟩) 0 0) 0 []):=fun W hW=>⟨rfl,.inr ⟨w4.heap.size,0,#[],rfl,Nat.le_refl _,hW,Nat.le_refl _,by unfold maxLen;omega,rfl,rfl⟩⟩
   obtain⟨C1,hC1⟩:=zg (af (x.2.take 64))
   obtain⟨C2,hC2⟩:=zg (af (s.drop 64))
   have Q1:Hid (C1.length=64*1):=by show _=_;rw[hC1];unfold af;rw[List.length_map,List.length_take,HXL.out];rfl
   have Q2:Hid (C2.length=64*1):=by show _=_;rw[hC2];unfold af;rw[List.length_map,List.length_drop,HS8.out]
   have HBw4:Below w.heap.size w w4:=hBr.trans (hB4.mono om)
   have Q3:Hid (∀W,Below w.heap.size w W->∀ad,some (⟨b4',o4',none⟩:Addr)=some ad->∀j v,C1[j]? = some v->W.cell? (ad.add j)=some v):=by
    intro W hW ad e j v hv
    cases e
    refine ag hW (HFX.out j v ?_)
    have hj:j<64:=by have:=(List.getElem?_eq_some_iff.1 hv).1;have:=Q1.out;omega
    rw[hC1]at hv
    simp only[af,List.getElem?_map,List.getElem?_take]at hv ⊢
    rw[if_pos hj]at hv
    exact hv
   have Q4:Hid (∀W,Below w.heap.size w W->∀ad,some (⟨b3',o3'+64,none⟩:Addr)=some ad->∀j v,C2[j]? = some v->W.cell? (ad.add j)=some v):=by
    intro W hW ad e j v hv
    cases e
    have h1:=ag hW (HFS.out (64+j) v (by
     rw[hC2]at hv
     simp only[af,List.getElem?_map,List.getElem?_drop]at hv ⊢
     exact hv))
    rw[Addr.add_lit]at h1 ⊢
    rw[show o3'+64+j=o3'+(64+j) by omega]
    exact h1
   have Q5:Hid (∀u ∈ C1,u.oneCell'=true):=by
    rw[hC1]
    intro v hv
    obtain⟨y,_,rfl⟩:=List.mem_map.1 hv
    rfl
   have Q6:Hid (∀u ∈ C2,u.oneCell'=true):=by
    rw[hC2]
    intro v hv
    obtain⟨y,_,rfl⟩:=List.mem_map.1 hv
    rfl
   have HC1:=aa hC1
   have HC2:=aa hC2
   have huc:¬uc=64:=om
   have huc2:(64:Int)<=(uc:Int):=om
   have hxc2:(64:Int)<=(xc:Int):=om
   have p0:(0:Int)<=(p:Int):=om
   have p1:(p:Int)<(n1:Int):=om
   clear hC1 hC2 fs4 fx4
   refine bZ (fun W=>W.cell? ⟨X,0,none⟩=some (.slice (some ⟨g,0,none⟩) n1 vc)/\W.cell? ⟨wr.heap.size,0,none⟩=some (.int .i64 p)/\W.cell? ⟨wr.heap.size,1,none⟩=some (.slice (some ⟨b4',o4',none⟩) 128 xc)/\W.cell? ⟨g,p,none⟩=some (.slice (some ⟨b3',o3',none⟩) 128 uc)) 18 kr ?_
   have hS4:=And.intro t0 (And.intro e0 (And.intro e1 hcg))
   clear t0 e0 e1 hcg
   refine aM 0 (.pointer (some ⟨X,0,none⟩)) rfl kr kr kr kr (fun _ _ _ h=>h) rfl (fun W ⟨t0,e0,e1,hcg⟩ => ?y0) hS4 ?_
   case y0=>(go_simp;try rfl)
   simp only[Act.put,zA]
   refine aM 1 (.slice (some ⟨g,0,none⟩) n1 vc) rfl kr kr kr kr (fun _ _ _ h=>h) rfl (fun W ⟨t0,e0,e1,hcg⟩ => ?y1) hS4 ?_
   case y1=>(go_simp;try rfl)
   simp only[Act.put]
   refine aM 2 (.pointer (some ⟨wr.heap.size,0,none⟩)) rfl kr kr kr kr (fun _ _ _ h=>h) rfl (fun W ⟨t0,e0,e1,hcg⟩ => ?y2) hS4 ?_
   case y2=>(go_simp;try rfl)
   simp only[Act.put]
   refine aM 3 (.int .i64 p) rfl kr kr kr kr (fun _ _ _ h=>h) rfl (fun W ⟨t0,e0,e1,hcg⟩ => ?y3) hS4 ?_
   case y3=>(go_simp;try rfl)
   simp only[Act.put]
   refine aM 5 (.pointer (some ⟨wr.heap.size,1,none⟩)) rfl kr kr kr kr (fun _ _ _ h=>h) rfl (fun W ⟨t0,e0,e1,hcg⟩ => ?y5) hS4 ?_
   case y5=>(go_simp;try rfl)
   simp only[Act.put]
   refine aM 6 (.slice (some ⟨b4',o4',none⟩) 128 xc) rfl kr kr kr kr (fun _ _ _ h=>h) rfl (fun W ⟨t0,e0,e1,hcg⟩ => ?y6) hS4 ?_
   case y6=>(go_simp;try rfl)
   simp only[Act.put]
   refine aM 7 (.slice (some ⟨b4',o4',none⟩) 64 xc) rfl kr kr kr kr (fun _ _ _ h=>h) rfl (fun W ⟨t0,e0,e1,hcg⟩ => ?y7) hS4 ?_
   case y7=>(go_simp;try rfl)
   simp only[Act.put]
   refine aM 9 (.pointer (some ⟨X,0,none⟩)) rfl kr kr kr kr (fun _ _ _ h=>h) rfl (fun W ⟨t0,e0,e1,hcg⟩ => ?y9) hS4 ?_
   case y9=>(go_simp;try rfl)
   simp only[Act.put]
   refine aM 10 (.slice (some ⟨g,0,none⟩) n1 vc) rfl kr kr kr kr (fun _ _ _ h=>h) rfl (fun W ⟨t0,e0,e1,hcg⟩ => ?y10) hS4 ?_
   case y10=>(go_simp;try rfl)
   simp only[Act.put]
   refine aM 11 (.pointer (some ⟨wr.heap.size,0,none⟩)) rfl kr kr kr kr (fun _ _ _ h=>h) rfl (fun W ⟨t0,e0,e1,hcg⟩ => ?y11) hS4 ?_
   case y11=>(go_simp;try rfl)
   simp only[Act.put]
   refine aM 12 (.int .i64 p) rfl kr kr kr kr (fun _ _ _ h=>h) rfl (fun W ⟨t0,e0,e1,hcg⟩ => ?y12) hS4 ?_
   case y12=>(go_simp;try rfl)
   simp only[Act.put]
   refine aM 13 (.pointer (some ⟨g,p,none⟩)) rfl kr kr kr kr (fun _ _ _ h=>h) rfl (fun W ⟨t0,e0,e1,hcg⟩ => ?y13) hS4 ?_
   case y13=>(go_simp;try rfl)
   simp only[Act.put]
   refine aM 14 (.slice (some ⟨b3',o3',none⟩) 128 uc) rfl kr kr kr kr (fun _ _ _ h=>h) rfl (fun W ⟨t0,e0,e1,hcg⟩ => ?y14) hS4 ?_
   case y14=>(go_simp;try rfl)
   simp only[Act.put]
   refine aM 15 (.slice (some ⟨b3',o3'+64,none⟩) 64 (uc-64)) rfl kr kr kr kr (fun _ _ _ h=>h) rfl (fun W ⟨t0,e0,e1,hcg⟩ => ?y15) hS4 ?_
   case y15=>(go_simp;try rfl)
   simp only[Act.put]
   refine aC 4 kr rfl rfl ?_
   unfold Oper.wp
   go_simp
   refine aC 8 kr rfl rfl ?_
   refine dA (.tmp 69) (.tmp 72) 40 rfl w4.heap.size 5 j0 (.int .u8 0) 1 1 Tryz.underlying40 hj hy0 hy1 hy2 rfl (by decide) (.slice (some ⟨w4.heap.size,0,none⟩) 0 0) 0 [] rfl (HO5.out _ (ak (w:=w4) (.cells #[] 5) rfl)) (some ⟨b4',o4',none⟩) 64 xc C1 rfl Q1.out (fun h=>by cases h) (Q3.out _ (HBw4.trans ((((Below.refl _ w4).alloc (Nat.le_refl _) (.cells #[] 5)).drew).mono HBw4.size))) Q5.out (by unfold maxLen;omega) om (by show _<=(w4.alloc (.cells #[] 5)).heap.size;simp) ?_
   intro va vc5 w5 hown hgrow
   have hB5:=DT hgrow (Nat.le_refl _)
   have hz5:=hB5.size
   rw[Nat.zero_add,List.nil_append]at hown
   have HW5:=aa hown
   have hS5:=B6 hB5 hS4
   clear hown hgrow
   refine⟨.inr hS5,?_⟩
   simp only[Act.put,zA,Nat.zero_add]
   refine aC 16 kr rfl rfl ?_
   refine dA (.tmp 73) (.tmp 80) 40 rfl w4.heap.size 5 j0 (.int .u8 0) 1 1 Tryz.underlying40 hj hy0 hy1 hy2 rfl (by decide) (.slice va 64 vc5) 64 C1 rfl HW5.out (some ⟨b3',o3'+64,none⟩) 64 (uc-64) C2 rfl Q2.out (fun h=>by cases h) (Q4.out _ (HBw4.trans (hB5.mono HBw4.size))) Q6.out (by unfold maxLen;omega) om hz5 ?_
   intro vb vd w6 hown hgrow
   have hB6:Below w4.heap.size w4 w6:=hB5.grown hgrow hz5 (fun k e=>(HW5.out.lt k e).1)
   have hS6:=B6 hB6 hS4
   have HW6:=aa hown
   clear hown hgrow
   refine⟨.inr hS6,?_⟩
   simp only[Act.put,Nat.reduceAdd]
   refine aC 17 kr rfl rfl ?_
   unfold Oper.wp
   go_simp
   refine aC 18 kr rfl rfl ?_
   have hcg6:=hS6.2.2.2
   have hcg6s:(w6.cell? ⟨g,p,none⟩).isSome=true:=by rw[hcg6];rfl
   have hcg6f:w6.frozen? ⟨g,p,none⟩=false:=(hB6.frozen (p:=⟨g,p,none⟩) hg4l).trans hcgf4
   unfold Oper.wp
   go_simp
   refine cV kr ?_
   have hx1:(w6.setCell ⟨g,p,none⟩ (.slice vb 128 vd)).heap[X]? = some (.cells #[.slice (some ⟨g,0,none⟩) n1 vc,.slice none 0 0,.int .i64 k,.bool false] 27 (0,0)):=(Below.heap_setCell _ _ _ _ (Ne.symm hgX)).trans ((hB6.block X hX4l).trans HXC4.out)
   have hx2:(w6.setCell ⟨g,p,none⟩ (.slice vb 128 vd)).heap[w.heap.size+1]? = some (.cells zK 27 (0,0)):=
    (Below.heap_setCell _ _ _ _ (by show w.heap.size+1≠g;omega)).trans ((hB6.block _ om).trans ((hB4.block _ om).trans ((hB.block _ rl).trans HX2.out)))
   have hown7:=((cZ HXO4.out (fun q hq=>hB6.block q (by simp[Value.ownBlock]at hq;omega))).stored p (.slice vb 128 vd)).1
   have hrow7:(w6.setCell ⟨g,p,none⟩ (.slice vb 128 vd)).ownsRow w4.heap.size 5 1 (.slice vb 128 vd) 128 (C1++C2):=cZ HW6.out (fun q hq=>Below.heap_setCell _ _ _ _ (by have:=(HW6.out.lt q hq).1;show q≠g;omega))
   have hB7:Below w.heap.size w (w6.setCell ⟨g,p,none⟩ (.slice vb 128 vd)):=(HBw4.trans (hB6.mono HBw4.size)).setCell (p:=⟨g,p,none⟩) (by show w.heap.size<=g;omega) _
   have HX7:=aa hx1
   have HY7:=aa hx2
   have HO7:=aa hown7
   have HR7:=aa hrow7
   clear hx1 hx2 hown7 hrow7 hS6 hS5 hS4 hcg6 hcg6s hcg6f hcgf4 hB6 hB5 hB4
   generalize w6.setCell ⟨g,p,none⟩ (.slice vb 128 vd)=w7 at *
   obtain⟨_,t0,t1,t2,t3,⟨u0,u1,u2,u3⟩,v0,v1,v2,v3⟩:=aF (Below.refl _ w7) HX7.out
   obtain⟨_,r0,r1,r2,r3,⟨j0,j1,j2,j3⟩,z0,z1,z2,z3⟩:=aF (Below.refl _ w7) HY7.out
   have hXs:X≠w.heap.size+1:=om
   have hT:C1++C2=af (x.2.take 64++s.drop 64):=by rw[HC1.out,HC2.out];simp[af]
   have HFIN:Hid (∀(W:World),ap X (w.heap.size+1) w7 W->eJ Nz W (.agg #[.slice (some ⟨g,0,none⟩) n1 vc,.slice none 0 0,.int .i64 0,.bool true]) ⟨(a9 d.secs (d.pend.take k)).set p (x.2.take 64++s.drop 64),[],0,true⟩/\Below w.heap.size w W):=by
    intro W hW
    have hBW:Below w.heap.size w W:=hB7.trans (hW.below om om)
    have hr:=HR7.out
    rw[hT]at hr
    have hbs:aN Nz W [.slice vb 128 vd] (x.2.take 64++s.drop 64):=i4 (cZ hr (fun q hq=>hW.block q (by have:=(hr.lt q hq).1;omega) (by have:=(hr.lt q hq).1;omega)))
    obtain⟨h1,h2,h3,h4⟩:=nh (cZ HO7.out (fun q hq=>hW.block q (by simp[Value.ownBlock]at hq;omega) (by simp[Value.ownBlock]at hq;omega))) ((HSVk.out.below hBW).set p hbs)
    exact⟨⟨_,_,_,none,0,0,rfl,h3,Sl.nil _ _ _ _,h1,by unfold maxLen;omega,h2,Nat.le_refl _,h4,bO.zero _ _⟩,hBW⟩
   clear hT
   go_upto_region 17 with (fail)
   have hx8:((w7.setCell ⟨X,2,none⟩ (.int .i64 0)).setCell ⟨X,3,none⟩ (.bool true)).heap[X]? = some (.cells #[.slice (some ⟨g,0,none⟩) n1 vc,.slice none 0 0,.int .i64 0,.bool true] 27 (0,0)):=by
    have:=ax (ax HX7.out 2 (.int .i64 0)) 3 (.bool true)
    simpa using this
   have hy8:((w7.setCell ⟨X,2,none⟩ (.int .i64 0)).setCell ⟨X,3,none⟩ (.bool true)).heap[w.heap.size+1]? = some (.cells zK 27 (0,0)):=
    (Below.heap_setCell _ _ _ _ (Ne.symm hXs)).trans ((Below.heap_setCell _ _ _ _ (Ne.symm hXs)).trans HY7.out)
   have hO8:ap X (w.heap.size+1) w7 ((w7.setCell ⟨X,2,none⟩ (.int .i64 0)).setCell ⟨X,3,none⟩ (.bool true)):=((ap.refl _ _ _).set1 _ _).set1 _ _
   have HX8:=aa hx8
   have HY8:=aa hy8
   clear hx8 hy8 t0 t1 t2 t3 u0 u1 u2 u3 v0 v1 v2 v3 r0 r1 r2 r3 j0 j1 j2 j3 z0 z1 z2 z3
   generalize (w7.setCell ⟨X,2,none⟩ (.int .i64 0)).setCell ⟨X,3,none⟩ (.bool true)=w8 at *
   obtain⟨_,t0,t1,t2,t3,⟨u0,u1,u2,u3⟩,v0,v1,v2,v3⟩:=aF (Below.refl _ w8) HX8.out
   obtain⟨_,r0,r1,r2,r3,⟨j0,j1,j2,j3⟩,z0,z1,z2,z3⟩:=aF (Below.refl _ w8) HY8.out
   go_wp2
   refine bodyPost_ret (by simp[results,Tryz.results71,go_sem,r0,r1,r2,r3];try rfl) rfl ?_
   refine(fun (q:ap X (w.heap.size+1) w7 _)=>⟨⟨_,by rw[HRD.out],by rw[HRD.out];exact(HFIN.out _ q).1⟩,(HFIN.out _ q).2⟩) ?_
   exact(((hO8.set2 _ _).set2 _ _).set2 _ _).set2 _ _
theorem DU (a1:Option Addr)(n1 c1:Nat)(a2:Option Addr)(n2 c2:Nat)(d:aj)(w:World)(h:bF Nz w a1 n1 c1 a2 n2 c2 d) :
  Calls Tryz.prog 71 #[.agg #[.slice a1 n1 c1,.slice a2 n2 c2,.int .i64 d.left,.bool d.stopped]] w fun e w' =>
   (∃v,e=.returned (.tuple #[v,.int .i64 d.sync.2])/\eJ Nz w' v d.sync.1)/\Below w.heap.size w w':=by
 cases hr:d.runs
 ·exact DS _ _ _ _ _ _ d w h hr
 ·by_cases hf:0<=d.left/\d.left<n2
  ·exact DA _ _ _ _ _ _ d w h hr hf
  ·exact Dy _ _ _ _ _ _ d w h hr hf
end Go.Proofs.YtmflnpdmlfmcpaaGreatDoor
