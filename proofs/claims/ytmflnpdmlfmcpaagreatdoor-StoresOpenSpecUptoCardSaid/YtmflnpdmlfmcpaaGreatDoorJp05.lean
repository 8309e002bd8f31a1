/- Joined texts. -/
import Derived.Test.YtmflnpdmlfmcpaaGreatDoorJp04
import Derived.Deep.DeepCutAuto
set_option maxRecDepth 100000
set_option maxHeartbeats 4000000
namespace Go.Proofs.YtmflnpdmlfmcpaaGreatDoor
open Go.RowKit
variable {Nz : Nat}
theorem CR {w w2:World}{x y:Obj}{k n c:Nat}(hgrow:((w.alloc x).alloc y).drew.grownBy w2 (Value.slice (some ⟨k,0,none⟩) n c).ownBlock)(hk:w.heap.size<=k):Below w.heap.size w w2:=
 ((((Below.refl _ w).alloc (Nat.le_refl _) x).alloc (by simp) y).drew).grown hgrow (by show _<=((w.alloc x).alloc y).heap.size;simp;omega) (fun k e=>by cases e;exact hk)
theorem CY {w w2:World}{x y:Obj}{k n c:Nat}(hgrow:((w.alloc x).alloc y).drew.grownBy w2 (Value.slice (some ⟨k,0,none⟩) n c).ownBlock){b:Nat}{o:Obj}(h:((w.alloc x).alloc y).heap[b]? = some o)(hb:b≠k):w2.heap[b]? = some o:=
 bx (w:=((w.alloc x).alloc y).drew) h hgrow (by simpa[Value.ownBlock] using hb)
theorem Eg {w:World}{X b i j:Nat}(hX:b≠X){v0 v2 u0 u1 u2 u3:Value}(h:w.cell? ⟨b,i,none⟩=some v0/\w.cell? ⟨b,j,none⟩=some v2) :
  ((((w.setCell ⟨X,0,none⟩ u0).setCell ⟨X,1,none⟩ u1).setCell ⟨X,2,none⟩ u2).setCell ⟨X,3,none⟩ u3).cell? ⟨b,i,none⟩=some v0 /\
  ((((w.setCell ⟨X,0,none⟩ u0).setCell ⟨X,1,none⟩ u1).setCell ⟨X,2,none⟩ u2).setCell ⟨X,3,none⟩ u3).cell? ⟨b,j,none⟩=some v2:=by
 have hO:=((((cW.refl X w).setCell 0 u0).setCell 1 u1).setCell 2 u2).setCell 3 u3
 exact⟨(hO.cell (p:=⟨b,i,none⟩) hX).trans h.1,(hO.cell (p:=⟨b,j,none⟩) hX).trans h.2⟩
theorem qH {w:World}{p q:Addr}{u v:Value}(hpq:q.block≠p.block)(h:w.cell? q=some v):(w.setCell p u).cell? q=some v:=
 (World.cell?_of_block (Below.heap_setCell _ _ _ _ hpq)).trans h
structure ap (a b:Nat)(w w':World):Prop where
 os:w'.os=w.os
 tape:w'.tape=w.tape
 output:w'.output=w.output
 size:w.heap.size=w'.heap.size
 block:∀k,k≠a->k≠b->w'.heap[k]? = w.heap[k]?
theorem ap.refl (a b:Nat)(w:World):ap a b w w:=⟨rfl,rfl,rfl,rfl,fun _ _ _=>rfl⟩
theorem ap.set1 {a b:Nat}{w w':World}(h:ap a b w w')(i:Nat)(u:Value):ap a b w (w'.setCell ⟨a,i,none⟩ u):=
 ⟨h.os,h.tape,h.output,by simpa using h.size,fun k h1 h2=>(Below.heap_setCell _ _ _ _ h1).trans (h.block k h1 h2)⟩
theorem ap.set2 {a b:Nat}{w w':World}(h:ap a b w w')(i:Nat)(u:Value):ap a b w (w'.setCell ⟨b,i,none⟩ u):=
 ⟨h.os,h.tape,h.output,by simpa using h.size,fun k h1 h2=>(Below.heap_setCell _ _ _ _ h2).trans (h.block k h1 h2)⟩
theorem ap.below {a b B:Nat}{w w':World}(h:ap a b w w')(ha:B<=a)(hb:B<=b):Below B w w':=
 ⟨h.os,h.tape,h.output,Nat.le_of_eq h.size,fun k hk=>h.block k om om⟩
def Df (w1 W:World)(X:Nat)(va:Option Addr)(n vc:Nat)(vs:List Value)(l:Int):Prop:=
 w1.heap.size<=X/\W.heap[X]? = some (.cells #[.slice va n vc,.slice none 0 0,.int .i64 l,.bool false] 27 (0,0))/\W.ownsRow w1.heap.size 40 1 (.slice va n vc) n vs/\Below w1.heap.size w1 W
theorem Dg {w1 w2:World}{X n vc:Nat}{va:Option Addr}{vs:List Value}{o0 o1 o2 o3:Value}(hB:Below w1.heap.size w1 w2)(hX:w2.heap[X]? = some (.cells #[o0,o1,o2,o3] 27 (0,0)))(hBX:w1.heap.size<=X)
  (hown:w2.ownsRow w1.heap.size 40 1 (.slice va n vc) n vs) (l:Int) :
  Df w1 ((((w2.setCell ⟨X,0,none⟩ (.slice va n vc)).setCell ⟨X,1,none⟩ (.slice none 0 0)).setCell ⟨X,2,none⟩ (.int .i64 l)).setCell ⟨X,3,none⟩ (.bool false)) X va n vc vs l:=by
 obtain⟨h1,h2⟩:=qS hX (.slice va n vc) (.slice none 0 0) (.int .i64 l) (.bool false)
 refine⟨hBX,h1,cZ hown (fun g hg=>h2 g ?_),(((hB.setCell (by simpa using hBX) _).setCell (by simpa using hBX) _).setCell (by simpa using hBX) _).setCell (by simpa using hBX) _⟩
 rintro rfl
 exact de hown hX (by decide) hg.symm
theorem DR {w1 w2:World}{n vc:Nat}{va:Option Addr}{vs:List Value}(hB:Below w1.heap.size w1 w2)
  (hown:w2.ownsRow w1.heap.size 40 1 (.slice va n vc) n vs) (l:Int) :
  Df w1 (w2.alloc (.cells #[.slice va n vc,.slice none 0 0,.int .i64 l,.bool false] 27)) w2.heap.size va n vc vs l:=
 ⟨hB.size,ak _ rfl,hown.alloc _,hB.alloc hB.size _⟩
theorem DS (a1:Option Addr)(n1 c1:Nat)(a2:Option Addr)(n2 c2:Nat)(d:aj)(w:World)(h:bF Nz w a1 n1 c1 a2 n2 c2 d)(hr:d.runs=false) :
  Calls Tryz.prog 71 #[.agg #[.slice a1 n1 c1,.slice a2 n2 c2,.int .i64 d.left,.bool d.stopped]] w fun e w' =>
   (∃v,e=.returned (.tuple #[v,.int .i64 d.sync.2])/\eJ Nz w' v d.sync.1)/\Below w.heap.size w w':=by
 have H:=aa h
 clear h
 have HRD:Hid (d.sync=(aj.zero,40)):=by simp[Hid,aj.sync,hr]
 go_enter Tryz.func71,Tryz.ntmps71
 go_wp2_with fail
 refine(n6 _ _ _ _ _ _ _ _ (H.out.below ?hb)).mono ?_
 case hb=>go_grown
 rintro e w1 ⟨rfl,hB⟩
 obtain⟨bl,b0,b1,b2,b3,⟨_,i1,_,_⟩,_,y1,_⟩:=aF hB (aB _ (ak _ rfl))
 obtain⟨rl,r0,r1,r2,r3,⟨j0,j1,j2,j3⟩,z0,z1,z2,z3⟩:=aF hB (ak (n:=w.heap.size+1) _ (by simp))
 have hB1:Below w.heap.size w w1:=Below.trans (by go_grown) (hB.mono (by simp;omega))
 have hrun:d.runs=(decide (d.check=0) && !d.stopped):=by
  unfold aj.runs aj.check
  cases d.okB<;>simp
 rw[hr]at hrun
 clear hB hr
 generalize d.check=er at *
 generalize d.stopped=st at *
 by_cases h0:er=0
 ·subst h0
  obtain rfl:st=true:=by simpa using hrun
  clear hrun
  go_wp2
  refine bodyPost_ret (by simp[results,Tryz.results71,go_sem,r0,r1,r2,r3];try rfl) rfl ?_
  exact⟨⟨_,by rw[HRD.out],by rw[HRD.out];exact ge _⟩,by go_grown⟩
 ·clear hrun
  go_wp2
  refine bodyPost_ret (by simp[results,Tryz.results71,go_sem,r0,r1,r2,r3];try rfl) rfl ?_
  exact⟨⟨_,by rw[HRD.out],by rw[HRD.out];exact ge _⟩,by go_grown⟩
theorem Dy (a1:Option Addr)(n1 c1:Nat)(a2:Option Addr)(n2 c2:Nat)(d:aj)(w:World)(h:bF Nz w a1 n1 c1 a2 n2 c2 d)(hr:d.runs=true)(hf:¬(0<=d.left/\d.left<n2)) :
  Calls Tryz.prog 71 #[.agg #[.slice a1 n1 c1,.slice a2 n2 c2,.int .i64 d.left,.bool d.stopped]] w fun e w' =>
   (∃v,e=.returned (.tuple #[v,.int .i64 d.sync.2])/\eJ Nz w' v d.sync.1)/\Below w.heap.size w w':=by
 have H:=aa h
 have L1:=h.secs.len
 have L2:=h.pend.len
 obtain⟨hok,hst⟩:=fh hr
 obtain⟨z1,z2,z3⟩:=ls hok
 obtain⟨l1,l2⟩:=ng hok
 have hbad:=pd hok
 rw[L1]at z1 z2 hbad
 rw[L2]at z3
 have hck:=aj.check_ok hok
 have HRD:Hid (d.sync=(⟨a9 d.secs d.pend,[],if 0<=d.left then d.left-n2 else d.left,false⟩,0)):=by
  show _=_
  unfold aj.sync
  rw[if_pos hr,if_neg (by rw[L2];exact hf),L2]
 have HBAD:=aa hbad
 obtain⟨dl,hdl⟩:=zg d.left
 rw[<-hdl]at hf l1 l2
 have HRD:Hid (d.sync=(⟨a9 d.secs d.pend,[],if 0<=dl then dl-n2 else dl,false⟩,0)):=by rw[hdl];exact HRD.out
 have HR:Hid (∀W,Below w.heap.size w W->Calls Tryz.prog 62 #[.agg #[.slice a1 n1 c1,.slice a2 n2 c2,.int .i64 dl,.bool false]] W fun e w'=>e=.returned (.int .i64 0)/\Below W.heap.size W w'):=fun W hW=>by
  rw[hdl,<-hst,<-hck]
  exact n6 _ _ _ _ _ _ _ _ (H.out.below hW)
 have HL2:=aa L2
 rw[<-hdl,hst]
 clear h hok hbad L1 L2 hdl hr hst hck
 obtain⟨b1',o1',rfl⟩:∃b o,a1=some ⟨b,o,none⟩:=by
  rcases H.out.secs.secs with h0|⟨b,o,h0,_⟩
  ·omega
  ·exact⟨b,o,h0⟩
 obtain⟨vs0,hsv,hvl,hvc,hv1⟩:=vP H.out.secs
 have HSV:=aa hsv
 have HVC:=aa hvc
 have HVL:=aa hvl
 obtain⟨i0,hi,hz0,hz1,hz2⟩:=info_parts nN
 clear hsv hvc hvl
 go_enter Tryz.func71,Tryz.ntmps71
 go_wp2_with fail
 refine(HR.out _ ?hb).mono ?_
 case hb=>go_grown
 rintro e w1 ⟨rfl,hB⟩
 obtain⟨bl,b0,b1,b2,b3,⟨_,i1,_,_⟩,_,y1,_⟩:=aF hB (aB _ (ak _ rfl))
 have HX1:Hid (w1.heap[w.heap.size]? = some (.cells #[.slice (some ⟨b1',o1',none⟩) n1 c1,.slice a2 n2 c2,.int .i64 dl,.bool false] 27 (0,0))):=(hB.block _ (by simp;omega)).trans (aB _ (ak _ rfl))
 have HX2:Hid (w1.heap[w.heap.size+1]? = some (.cells zK 27 (0,0))):=(hB.block _ (by simp)).trans (ak _ (by simp))
 have rl:=lt_of_block HX2.out
 have hB1:Below w.heap.size w w1:=Below.trans (by go_grown) (hB.mono (by simp;omega))
 clear hB HR
 have HVW:Hid (∀W,Below w.heap.size w W->∀ad,some (⟨b1',o1',none⟩:Addr)=some ad->∀j u,vs0[j]? = some u->W.cell? (ad.add j)=some u):=fun W hW ad had j u hu=>ag hW (HVC.out ad had j u hu)
 have HO:Hid (∀(W:World) (S:Nat),w1.heap.size<=S->W.heap[S]? = some (.cells #[] 40 (0,0))->W.ownsRow w1.heap.size 40 1 (.slice (some ⟨S,0,none⟩) 0 0) 0 []):=fun W S hS hW=>⟨rfl,.inr ⟨S,0,#[],rfl,hS,hW,Nat.le_refl _,by unfold maxLen;omega,rfl,rfl⟩⟩
 go_upto_region 4 with (fail)
 go_cut [5] (fun s5 wx=>s5=.bool false/\wx=w1)
 case first =>
  rcases(show dl<0\/(0<=dl/\(n2:Int)<=dl) by omega) with hd|⟨hd1,hd2⟩
  all_goals
   go_wp2_with fail
   go_meet
   first
    | exact⟨rfl,rfl⟩
    | exact⟨by rw[decide_eq_false om],rfl⟩
 case rest =>
 obtain⟨rfl,hwc⟩:=hcut
 rw[hwc]
 clear hwc
 go_upto_region 7 with (fail)
 go_cut [6] (fun s6 wx=>∃X va vc,s6=.pointer (some ⟨X,0,none⟩)/\Df w1 wx X va n1 vc vs0 dl)
 case first =>
  go_region_held3 (fun W=>W.cell? ⟨w.heap.size,0,none⟩=some (.slice (some ⟨b1',o1',none⟩) n1 c1)/\W.cell? ⟨w.heap.size,2,none⟩=some (.int .i64 dl))
   (first|exact⟨b0,b2⟩|go_keep|exact Eg om ⟨b0,b2⟩)
   (first
   | (refine iM rfl (.tmp 32) (.tmp 34) 22 rfl w1.heap.size 40 i0 (.slice none 0 0) 1 24 Tryz.underlying22 hi hz0 hz1 hz2 rfl (by decide) (.slice (some ⟨w1.heap.size,0,none⟩) 0 0) 0 [] ?e1 (HO.out _ _ (Nat.le_refl _) (ak _ rfl)) (some ⟨b1',o1',none⟩) n1 c1 vs0 ?e2 HVL.out (fun h=>by cases h) (HVW.out _ (by go_grown)) hv1 ?e3 ?e4 ?e5 ?_;(case e1=>simp[Act.eval]);(case e2=>simp[Act.eval]);(case e3=>(unfold maxLen;omega));(case e4=>omega);(case e5=>simp<;>omega);intro va vc w2 hown hgrow;have hBA:Below w1.heap.size w1 w2:=((Below.refl _ w1).drew.alloc (Nat.le_refl _) _).grown hgrow (by simp) (fun k e=>by cases e;exact Nat.le_refl _);have b0:=ag hBA b0;have b2:=ag hBA b2;rw[Nat.zero_add,List.nil_append]at hown;have HAw:=aa hown;clear hown)
   | (refine iM rfl (.tmp 32) (.tmp 34) 22 rfl w1.heap.size 40 i0 (.slice none 0 0) 1 24 Tryz.underlying22 hi hz0 hz1 hz2 rfl (by decide) (.slice (some ⟨w1.heap.size,0,none⟩) 0 0) 0 [] ?e1 (HO.out _ _ (Nat.le_refl _) (aB (w:=w1.alloc (.cells #[] 40)) (.cells zK 27) (ak _ rfl))) (some ⟨b1',o1',none⟩) n1 c1 vs0 ?e2 HVL.out (fun h=>by cases h) (HVW.out _ (by go_grown)) hv1 ?e3 ?e4 ?e5 ?_;(case e1=>simp[Act.eval]);(case e2=>simp[Act.eval]);(case e3=>(unfold maxLen;omega));(case e4=>omega);(case e5=>simp<;>omega);intro va vc w2 hown hgrow;have hBB:=CR hgrow (Nat.le_refl _);have hxb:=CY hgrow (ak (w:=w1.alloc (.cells #[] 40)) (n:=w1.heap.size+1) (.cells zK 27) (by simp)) om;obtain⟨_,r0,r1,r2,r3,⟨j0,j1,j2,j3⟩,z0,z1,z2,z3⟩:=aF (Below.refl _ w2) hxb;have b0:=ag hBB b0;have b2:=ag hBB b2;rw[Nat.zero_add,List.nil_append]at hown;have HBw:=aa hown;have HBx:=aa hxb;clear hown hxb)
   | (refine iM rfl (.tmp 32) (.tmp 34) 22 rfl w1.heap.size 40 i0 (.slice none 0 0) 1 24 Tryz.underlying22 hi hz0 hz1 hz2 rfl (by decide) (.slice (some ⟨w1.heap.size+1,0,none⟩) 0 0) 0 [] ?e1 (HO.out _ _ (Nat.le_succ _) (ak (w:=w1.alloc (.cells zK 27)) (.cells #[] 40) (by simp))) (some ⟨b1',o1',none⟩) n1 c1 vs0 ?e2 HVL.out (fun h=>by cases h) (HVW.out _ (by go_grown)) hv1 ?e3 ?e4 ?e5 ?_;(case e1=>simp[Act.eval]);(case e2=>simp[Act.eval]);(case e3=>(unfold maxLen;omega));(case e4=>omega);(case e5=>simp<;>omega);intro va vc w2 hown hgrow;have hBC:=CR hgrow (Nat.le_succ _);have hxb:=CY hgrow (aB (.cells #[] 40) (ak (w:=w1) (n:=w1.heap.size) (.cells zK 27) rfl)) om;obtain⟨_,r0,r1,r2,r3,⟨j0,j1,j2,j3⟩,z0,z1,z2,z3⟩:=aF (Below.refl _ w2) hxb;have b0:=ag hBC b0;have b2:=ag hBC b2;rw[Nat.zero_add,List.nil_append]at hown;have HCw:=aa hown;have HCx:=aa hxb;clear hown hxb))
  all_goals
   go_wp2_with fail
   go_meet
   first
    | exact⟨_,va,vc,rfl,DR hBA HAw.out dl⟩
    | exact⟨_,va,vc,rfl,Dg hBB HBx.out (Nat.le_succ _) HBw.out dl⟩
    | exact⟨_,va,vc,rfl,Dg hBC HCx.out (Nat.le_refl _) HCw.out dl⟩
 case rest =>
 obtain⟨X,va,vc,rfl,hM⟩:=hcut
 obtain⟨hXb,hXc,hXo,hXB⟩:=hM
 obtain⟨g,vc',hva,hg,hgc⟩:=tp hXo om
 cases hva
 have HXC:=aa hXc
 have HXO:=aa hXo
 have hz1:=hXB.size
 clear hXc hXo hgc b0 b1 b2 b3
 go_wp2_with fail
 go_loopw [7] (fun s7 wr=>∃(k:Nat) (vs:List Value),k<=n2/\s7=.int .i64 k/\wr.heap[X]? = some (.cells #[.slice (some ⟨g,0,none⟩) n1 vc,.slice none 0 0,.int .i64 dl,.bool false] 27 (0,0)) /\
   wr.ownsRow w1.heap.size 40 1 (.slice (some ⟨g,0,none⟩) n1 vc) n1 vs/\cf Nz w vs (a9 d.secs (d.pend.take k))/\Below w1.heap.size w1 wr) (fun i _=>n2-(intOf i).toNat)
 case atStart=>exact⟨0,vs0,Nat.zero_le _,rfl,HXC.out,HXO.out,HSV.out,hXB⟩
 case round =>
  obtain⟨k,vs,hk,rfl,hXc,hXo,hsv,hB⟩:=hrel
  have HXC:=aa hXc
  have HXO:=aa hXo
  have HSVk:=aa hsv
  clear hXc hXo hsv
  have hzr:=hB.size
  have hXl:=lt_of_block HXC.out
  have hgl:=(HXO.out.lt g rfl).2
  have hBr:Below w.heap.size w wr:=hB1.trans (hB.mono om)
  have hgX:g≠X:=by
   rintro rfl
   exact de HXO.out HXC.out (by decide) rfl
  by_cases hlt:k<n2
  ·rcases H.out.pend.writes with h0|⟨f2,o2,rfl,hc2⟩
   ·omega
   obtain⟨x,hx⟩:=av HL2.out hlt
   obtain⟨xa,xn,xc,xm,xc',hxs,hcell0,hcell⟩:=hc2 k x hx
   obtain⟨g1,g2,_⟩:=HBAD.out k x hx
   have s1:=ag hBr hcell0
   have s2:=ag hBr hcell
   have hf2:f2<w.heap.size:=World.block_lt_of_cell? _ _ hcell0
   have HN:=aa (qu d.secs d.pend k x hx)
   have HX:Hid (aN Nz w [.slice xa xn xc] x.2):=ti H.out.pend hx hcell
   obtain⟨p,hp⟩:=Int.eq_ofNat_of_zero_le g1
   rw[hp]at s1 g1 g2
   have HP:=aa hp
   have hpn:p<n1:=om
   obtain⟨u0,hu0⟩:∃u0,vs[p]? = some u0:=⟨_,List.getElem?_eq_getElem (by have:=HXO.out.1;omega)⟩
   have hgc0:wr.cell? ⟨g,p,none⟩=some u0:=(HXO.out.cellAt p om).trans hu0
   have hgc:(wr.cell? ⟨g,p,none⟩).isSome=true:=by rw[hgc0];rfl
   have hgf:wr.frozen? ⟨g,p,none⟩=false:=HXO.out.frozenAt p
   obtain⟨_,t0,_,_,_,_,_⟩:=aF (Below.refl _ wr) HXC.out
   have b1:wr.cell? ⟨w.heap.size,1,none⟩=some (.slice (some ⟨f2,o2,none⟩) n2 c2):=(aF hB HX1.out).2.2.1
   have k0:(0:Int)<=(k:Int):=om
   have k1':(k:Int)<(n2:Int):=om
   have hwsz:w.heap.size<wr.heap.size:=om
   clear hu0 hx hxs hcell0 hcell hc2 hp
   go_wp2_with fail
   go_region_held3 (fun W=>W.cell? ⟨X,0,none⟩=some (.slice (some ⟨g,0,none⟩) n1 vc)/\W.cell? ⟨w.heap.size,1,none⟩=some (.slice (some ⟨f2,o2,none⟩) n2 c2)/\W.cell? ⟨f2,o2+k*2,none⟩=some (.int .i64 p)/\W.cell? ⟨f2,o2+k*2+1,none⟩=some (.slice xa xn xc))
    (first|exact⟨qH (Ne.symm hgX) t0,qH (by show w.heap.size≠g;omega) b1,qH (by show f2≠g;omega) s1,qH (by show f2≠g;omega) s2⟩|go_keep)
    (first|fail)
   go_wp2
   go_roundw
   case rel =>
    refine⟨k+1,vs.set p (.slice xa xn xc),om,by go_num,(Below.heap_setCell _ _ _ _ (by simpa using Ne.symm hgX)).trans HXC.out,(HXO.out.stored p _).1,?_,(hB.setCell (p:=⟨g,p,none⟩) hg _).drew⟩
    rw[HN.out,show x.1.toNat=p by rw[HP.out];rfl]
    exact HSVk.out.set p HX.out
   case measure=>simp[intOf];omega
  ·obtain rfl:k=n2:=om
   obtain⟨_,t0,t1,t2,t3,⟨u0,u1,u2,u3⟩,v0,v1,v2,v3⟩:=aF (Below.refl _ wr) HXC.out
   have hx2:=(hB.block _ rl).trans HX2.out
   obtain⟨_,r0,r1,r2,r3,⟨j0,j1,j2,j3⟩,z0,z1,z2,z3⟩:=aF (Below.refl _ wr) hx2
   have hXs:X≠w.heap.size+1:=om
   have hs1:=HSVk.out
   rw[List.take_of_length_le (by have:=HL2.out;omega)]at hs1
   have HFIN:Hid (∀(W:World) (l:Int),ap X (w.heap.size+1) wr W->eJ Nz W (.agg #[.slice (some ⟨g,0,none⟩) n1 vc,.slice none 0 0,.int .i64 l,.bool false]) ⟨a9 d.secs d.pend,[],l,false⟩/\Below w.heap.size w W):=by
    intro W l hW
    have hBW:Below w.heap.size w W:=hBr.trans (hW.below om om)
    obtain⟨h1,h2,h3,h4⟩:=nh (cZ HXO.out (fun q hq=>hW.block q (by simp[Value.ownBlock]at hq;omega) (by simp[Value.ownBlock]at hq;omega))) (hs1.below hBW)
    exact⟨⟨_,_,_,none,0,0,rfl,h3,Sl.nil _ _ _ _,h1,by unfold maxLen;omega,h2,Nat.le_refl _,h4,bO.zero _ _⟩,hBW⟩
   clear hx2 hs1
   rcases(show dl<0\/(0<=dl/\(k:Int)<=dl) by omega) with hd|⟨hd1,hd2⟩
   ·have HE:Hid (d.sync=(⟨a9 d.secs d.pend,[],dl,false⟩,0)):=by
     show _=_
     rw[HRD.out,if_neg om]
    go_wp2
    refine bodyPost_ret (by simp[results,Tryz.results71,go_sem,r0,r1,r2,r3];try rfl) rfl ?_
    refine(fun (q:ap X (w.heap.size+1) wr _)=>⟨⟨_,by rw[HE.out],by rw[HE.out];exact(HFIN.out _ dl q).1⟩,(HFIN.out _ dl q).2⟩) ?_
    repeat (first|exact ap.refl _ _ _|apply ap.set2|apply ap.set1)
   ·have HE:Hid (d.sync=(⟨a9 d.secs d.pend,[],dl-k,false⟩,0)):=by
     show _=_
     rw[HRD.out,if_pos hd1]
    have hw:IntKind.i64.wrap (dl-k)=dl-k:=by rw[IntKind.wrap_i64];omega
    go_wp2
    refine bodyPost_ret (by simp[results,Tryz.results71,go_sem,r0,r1,r2,r3];try rfl) rfl ?_
    refine(fun (q:ap X (w.heap.size+1) wr _)=>⟨⟨_,by rw[HE.out],by rw[HE.out];exact(HFIN.out _ (dl-k) q).1⟩,(HFIN.out _ (dl-k) q).2⟩) ?_
    repeat (first|exact ap.refl _ _ _|apply ap.set2|apply ap.set1)
end Go.Proofs.YtmflnpdmlfmcpaaGreatDoor
