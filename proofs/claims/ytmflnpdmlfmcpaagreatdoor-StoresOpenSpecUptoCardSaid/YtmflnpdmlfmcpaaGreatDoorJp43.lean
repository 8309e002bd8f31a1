/- Joined texts. -/
import Derived.Test.YtmflnpdmlfmcpaaGreatDoorJp41
import Derived.Test.YtmflnpdmlfmcpaaGreatDoorJp30
import Derived.Test.YtmflnpdmlfmcpaaGreatDoorJp42
import Derived.Deep.Light
set_option maxRecDepth 100000
set_option maxHeartbeats 8000000
namespace Go.Proofs.YtmflnpdmlfmcpaaGreatDoor.Dr
open Go.RowKit Go.Shelf
theorem Em {B:Nat}{w:World}{va:Option Addr}{vn vc:Nat}{vs:List Value}{l:List ar}(h:w.ownsRow B 50 35 (.slice va vn vc) vn vs)(hf:dW 35 dZ w vs l):vn<=vc/\Sl 35 aq w va vn l:=
 eB (by decide) h l (by have h1:=h.1;have h2:=hf.1;omega) (iD hf)
theorem Dq (d:aj):(ci d).2=0/\d.okB=true/\(ci d).1=⟨bN d.secs,d.secs.length,(bN d.secs).length⟩\/(ci d).2≠0:=by
 by_cases h:(ci d).2=0
 ·left
  have hok:d.okB=true:=by
   cases q:d.okB
   ·rw[vU q]at h;cases h
   ·rfl
  have hst:d.stopped=false:=by
   cases q:d.stopped
   ·rfl
   ·rw[lh hok q]at h;cases h
  have hp:d.pend.length=0:=by
   rcases Nat.eq_zero_or_pos d.pend.length with q|q
   ·exact q
   ·rw[nZ hok hst q]at h;cases h
  have he:=nl hok hst hp
  exact⟨h,hok,by rw[he]⟩
 ·exact .inr h
theorem DJ {Nz:Nat}(a1:Option Addr)(n1 c1:Nat)(a2:Option Addr)(n2 c2:Nat)(d:aj)(w:World)(hNz:Nz<=w.heap.size)(hn:d.okB=true->n1<=100)(h:bF Nz w a1 n1 c1 a2 n2 c2 d) :
  Calls Tryz.prog 8 #[.agg #[.slice a1 n1 c1,.slice a2 n2 c2,.int .i64 d.left,.bool d.stopped]] w fun e w'=>mx Nz e w' (eS d)/\Below w.heap.size w w':=by
 have HNZ:=aa hNz
 have HDN:=aa hn
 have HD:=aa h
 have HB:Hid (Below w.heap.size w w):=Below.refl _ _
 have HDL:Hid (d.secs.length=n1):=h.secs.len
 have HOC:=aa (Dq d)
 clear hNz hn h
 go_enter Tryz.func8,Tryz.ntmps8
 go_upto_region 1 with (fail)
 obtain⟨w1,hw1⟩:=zg (((w.alloc (.cells #[.slice a1 n1 c1,.slice a2 n2 c2,.int .i64 d.left,.bool d.stopped] 27)).alloc (.cells #[.slice none 0 0,.int .i64 0,.int .i64 0] 24)))
 obtain⟨X1,hX1⟩:=zg w.heap.size
 obtain⟨X2,hX2⟩:=zg (w.heap.size+1)
 rw[<-hX2]
 rw[<-hX1]
 rw[<-hw1]
 have hU:Below w.heap.size w w1:=by rw[hw1];exact((Below.refl _ _).alloc (Nat.le_refl _) _).alloc (by simp) _
 have HX1:Hid (ac w1 X1 27 [.slice a1 n1 c1,.slice a2 n2 c2,.int .i64 d.left,.bool d.stopped]):=by rw[hw1,hX1];exact aB _ (ak _ rfl)
 have HX2:Hid (ac w1 X2 24 [.slice none 0 0,.int .i64 0,.int .i64 0]):=by rw[hw1,hX2];exact ak _ (by simp)
 have hnxX1:w.heap.size<=X1:=by go_light;have:=HB.out.size;omega
 have HNXX1:=aa hnxX1
 clear hnxX1
 have hnxX2:w.heap.size<=X2:=by go_light;have:=HB.out.size;omega
 have HNXX2:=aa hnxX2
 clear hnxX2
 have hne_X1_X2:X1≠X2:=by go_light;omega
 have HNE_X1_X2:=aa hne_X1_X2
 clear hne_X1_X2
 have HD:=aa (HD.out.below hU)
 have HB:=aa (HB.out.trans (hU.mono HB.out.size))
 clear hU hw1 hX1 hX2
 obtain⟨_,c00,c01,c02,c03,_,_,_⟩:=aF (Below.refl _ _) HX1.out
 go_wp2_with fail
 clear c00 c01 c02 c03
 refine(Ek (Nz:=Nz) a1 n1 c1 a2 n2 c2 d w1 HDN.out HD.out).mono ?_
 clear HD HX1
 rintro e w2 ⟨⟨ja,jn,jc,rfl,hJ⟩,hU⟩
 have HX2:=aa (HX2.out.below hU HX2.out.lt)
 have HB:=aa (HB.out.trans (hU.mono HB.out.size))
 clear hU
 obtain⟨J,hj⟩:=zg ((ci d).1)
 obtain⟨K,hk⟩:=zg ((ci d).2)
 rw[<-hj]at hJ
 rw[<-hj,<-hk]at HOC ⊢
 have hsm:eS d=if K=0 then (if (aQ J.recs).2=0 then (J,(aQ J.recs).1,0) else (.zero,[],(aQ J.recs).2)) else (.zero,[],K):=by rw[hj,hk];rfl
 have HSM:=aa hsm
 have HJ:=aa hJ
 clear hj hk hsm hJ
 go_upto_region 2 with (fail)
 obtain⟨w3,hw3⟩:=zg ((w2.alloc (.cells #[.slice ja jn jc,.int .i64 J.many,.int .i64 J.synced] 24)))
 obtain⟨X5,hX5⟩:=zg w2.heap.size
 rw[<-hX5]
 rw[<-hw3]
 have hU:Below w2.heap.size w2 w3:=by rw[hw3];exact(Below.refl _ _).alloc (Nat.le_refl _) _
 have HX5:Hid (ac w3 X5 24 [.slice ja jn jc,.int .i64 J.many,.int .i64 J.synced]):=by rw[hw3,hX5];exact ak _ rfl
 have hnxX5:w.heap.size<=X5:=by go_light;have:=HB.out.size;omega
 have HNXX5:=aa hnxX5
 clear hnxX5
 have hne_X2_X5:X2≠X5:=by go_light;have:=HX2.out.lt;omega
 have HNE_X2_X5:=aa hne_X2_X5
 clear hne_X2_X5
 have HX2:=aa (HX2.out.below hU HX2.out.lt)
 have HJ:=aa (HJ.out.below hU)
 have HB:=aa (HB.out.trans (hU.mono HB.out.size))
 clear hU hw3 hX5
 by_cases hK:K=0
 rotate_left
 ·have k1:(K != 0)=true:=by simpa using hK
  have k2:(K == 0)=false:=by simpa using hK
  have HR:Hid (eS d=(.zero,[],K)):=by rw[Hid,HSM.out,if_neg hK]
  clear hK HSM HOC
  obtain⟨_,e00,e01,e02,⟨u00,u01,u02⟩,y00,y01,y02⟩:=aJ (Below.refl _ _) HX2.out
  go_wp2_with fail
  obtain⟨w4,hw4⟩:=zg ((((w3.setCell ⟨X2,0,none⟩ (.slice none 0 0)).setCell ⟨X2,1,none⟩ (.int .i64 0)).setCell ⟨X2,2,none⟩ (.int .i64 0)))
  have hoU:cU X2 w3 w4:=by rw[hw4];exact cq _ _ _ _ _ 
  have hsU:w3.heap.size<=w4.heap.size:=by rw[hw4];simp
  have hrU:ac w4 X2 24 [.slice none 0 0,.int .i64 0,.int .i64 0]:=by rw[hw4];exact bX HX2.out _ _ _ 
  have hbU:Below w.heap.size w w4:=by rw[hw4];exact aY HB.out HNXX2.out _ _ _ 
  have HJ:=aa (dt HJ.out hoU hsU (Nat.le_trans HNZ.out HNXX2.out) HX2.out (.inl rfl))
  have HX5:=aa (dR HX5.out hoU HNE_X2_X5.out.symm)
  have HX2:=aa hrU
  have HB:=aa hbU
  clear hoU hsU hrU hbU
  rw[<-hw4]
  clear hw4
  clear e00 e01 e02 u00 u01 u02 y00 y01 y02
  obtain⟨_,g0,g1,g2,_,_,_⟩:=aJ (Below.refl _ w4) HX2.out
  refine bodyPost_ret (by simp[results,Tryz.results8,go_sem,g0,g1,g2];try rfl) rfl ?_
  exact⟨fc HR.out,HB.out⟩
 have HSM2:=aa (HSM.out.trans (if_pos hK))
 clear HSM
 subst hK
 have HJL:Hid (jn<=1024):=by
  rcases HOC.out with ⟨_,hok,h9⟩|h9
  ·have h1:=HJ.out.recs.len
   have h2:=mU d.secs
   have h3:=HDN.out hok
   have h4:=HDL.out
   rw[h9]at h1
   simp only at h1
   show _<=_
   omega
  ·exact absurd rfl h9
 clear HOC
 obtain⟨_,c00,c01,c02,_,_,_⟩:=aJ (Below.refl _ _) HX5.out
 go_upto_region 4 with (fail)
 go_wp2_with fail
 clear c00 c01 c02
 refine(vt ja jn jc J.recs w3 HJL.out (ic HJ.out.recs) HJ.out.s).mono ?_
 rintro e w5 ⟨hgl,hU⟩
 have HX2:=aa (HX2.out.below hU HX2.out.lt)
 have HJ:=aa (HJ.out.below hU)
 have HX5:=aa (HX5.out.below hU HX5.out.lt)
 have HB:=aa (HB.out.trans (hU.mono HB.out.size))
 clear hU
 rcases hgl with ⟨hk2,va,vn,vc,vs,rfl,hown,hfl⟩|⟨hk2,rfl⟩
 rotate_left
 ·have HR:Hid (eS d=(.zero,[],500)):=by rw[Hid,HSM2.out,hk2,if_neg (by decide)]
  clear hk2 HSM2
  obtain⟨_,e00,e01,e02,⟨u00,u01,u02⟩,y00,y01,y02⟩:=aJ (Below.refl _ _) HX2.out
  go_wp2_with fail
  obtain⟨w6,hw6⟩:=zg ((((w5.setCell ⟨X2,0,none⟩ (.slice none 0 0)).setCell ⟨X2,1,none⟩ (.int .i64 0)).setCell ⟨X2,2,none⟩ (.int .i64 0)))
  have hoU:cU X2 w5 w6:=by rw[hw6];exact cq _ _ _ _ _ 
  have hsU:w5.heap.size<=w6.heap.size:=by rw[hw6];simp
  have hrU:ac w6 X2 24 [.slice none 0 0,.int .i64 0,.int .i64 0]:=by rw[hw6];exact bX HX2.out _ _ _ 
  have hbU:Below w.heap.size w w6:=by rw[hw6];exact aY HB.out HNXX2.out _ _ _ 
  have HJ:=aa (dt HJ.out hoU hsU (Nat.le_trans HNZ.out HNXX2.out) HX2.out (.inl rfl))
  have HX5:=aa (dR HX5.out hoU HNE_X2_X5.out.symm)
  have HX2:=aa hrU
  have HB:=aa hbU
  clear hoU hsU hrU hbU
  rw[<-hw6]
  clear hw6
  clear e00 e01 e02 u00 u01 u02 y00 y01 y02
  obtain⟨_,g0,g1,g2,_,_,_⟩:=aJ (Below.refl _ w6) HX2.out
  refine bodyPost_ret (by simp[results,Tryz.results8,go_sem,g0,g1,g2];try rfl) rfl ?_
  exact⟨fc HR.out,HB.out⟩
 obtain⟨hvc,hsl⟩:=Em hown hfl
 have HR:Hid (eS d=(J,(aQ J.recs).1,0)):=by rw[Hid,HSM2.out,if_pos hk2]
 have HL:=aa hsl
 have HVC:=aa hvc
 clear hk2 HSM2 hown hfl hsl hvc
 obtain⟨_,c00,c01,c02,_,_,_⟩:=aJ (Below.refl _ _) HX5.out
 obtain⟨_,e00,e01,e02,⟨u00,u01,u02⟩,y00,y01,y02⟩:=aJ (Below.refl _ _) HX2.out
 have hne5:=HNE_X2_X5.out
 have hne5s:=HNE_X2_X5.out.symm
 go_wp2_with fail
 clear hne5 hne5s
 obtain⟨w7,hw7⟩:=zg ((((w5.setCell ⟨X2,0,none⟩ (.slice ja jn jc)).setCell ⟨X2,1,none⟩ (.int .i64 J.many)).setCell ⟨X2,2,none⟩ (.int .i64 J.synced)))
 have hoU:cU X2 w5 w7:=by rw[hw7];exact cq _ _ _ _ _ 
 have hsU:w5.heap.size<=w7.heap.size:=by rw[hw7];simp
 have hrU:ac w7 X2 24 [.slice ja jn jc,.int .i64 J.many,.int .i64 J.synced]:=by rw[hw7];exact bX HX2.out _ _ _ 
 have hbU:Below w.heap.size w w7:=by rw[hw7];exact aY HB.out HNXX2.out _ _ _ 
 have HJ:=aa (dt HJ.out hoU hsU (Nat.le_trans HNZ.out HNXX2.out) HX2.out (.inl rfl))
 have HX5:=aa (dR HX5.out hoU HNE_X2_X5.out.symm)
 have HL:=aa (fd HL.out hoU HX2.out jP)
 have HX2:=aa hrU
 have HB:=aa hbU
 clear hoU hsU hrU hbU
 rw[<-hw7]
 clear hw7
 clear c00 c01 c02 e00 e01 e02 u00 u01 u02 y00 y01 y02
 obtain⟨_,g0,g1,g2,_,_,_⟩:=aJ (Below.refl _ w7) HX2.out
 refine bodyPost_ret (by simp[results,Tryz.results8,go_sem,g0,g1,g2];try rfl) rfl ?_
 exact⟨⟨_,_,_,_,_,_,by rw[HR.out],by rw[HR.out];exact HJ.out,HVC.out,by rw[HR.out];exact HL.out⟩,HB.out⟩
theorem CS {o:Oper}{a:Act}{W:World}(x:Operand)(ho:o.op=.load 27 x)(X:Nat)(hx:a.eval x=.pointer (some ⟨X,0,none⟩)){v0 v1 v2 v3:Value}(hc:ac W X 27 [v0,v1,v2,v3]):(execOp a.eval o).run Tryz.prog W=.ok (.value (.agg #[v0,v1,v2,v3])) W:=by
 obtain⟨_,f0,f1,f2,f3,_,_⟩:=aF (Below.refl _ W) hc
 unfold execOp
 simp only[ho,hx]
 go_simp
theorem DK {Nz:Nat}(a:Option Addr)(n c:Nat)(j:am)(a1:Option Addr)(n1 c1:Nat)(a2:Option Addr)(n2 c2:Nat)(d:aj)(w:World)(hNz:Nz<=w.heap.size)(hn:d.okB=true->n1<=100)(hjn:n<=1024)(h:cg Nz w a n c j)(hD:bF Nz w a1 n1 c1 a2 n2 c2 d) :
  Calls Tryz.prog 10 #[.agg #[.slice a n c,.int .i64 j.many,.int .i64 j.synced],.agg #[.slice a1 n1 c1,.slice a2 n2 c2,.int .i64 d.left,.bool d.stopped]] w fun e w'=>eG Nz e w' (iE j d)/\Below w.heap.size w w':=by
 have HNZ:=aa hNz
 have HDN:=aa hn
 have HJN:=aa hjn
 have HJ:=aa h
 have HD:=aa hD
 have HB:Hid (Below w.heap.size w w):=Below.refl _ _
 obtain⟨r,hr⟩:=zg (iE j d)
 have HSM:Hid (r=if j.check=0 then (if (aQ j.recs).2=0 then cC j d else (.zero,.zero,(aQ j.recs).2)) else (.zero,.zero,j.check)):=hr
 rw[<-hr]
 clear hNz hn hjn h hD hr
 go_enter Tryz.func10,Tryz.ntmps10
 go_upto_region 1 with (fail)
 obtain⟨w1,hw1⟩:=zg (((((w.alloc (.cells #[.slice a n c,.int .i64 j.many,.int .i64 j.synced] 24)).alloc (.cells #[.slice a1 n1 c1,.slice a2 n2 c2,.int .i64 d.left,.bool d.stopped] 27)).alloc (.cells #[.slice none 0 0,.int .i64 0,.int .i64 0] 24)).alloc (.cells zK 27)))
 obtain⟨X2,hX2⟩:=zg w.heap.size
 obtain⟨X3,hX3⟩:=zg (w.heap.size+1)
 obtain⟨X4,hX4⟩:=zg (w.heap.size+2)
 obtain⟨X5,hX5⟩:=zg (w.heap.size+3)
 rw[<-hX5]
 rw[<-hX4]
 rw[<-hX3]
 rw[<-hX2]
 rw[<-hw1]
 have hU:Below w.heap.size w w1:=by rw[hw1];exact((((Below.refl _ _).alloc (Nat.le_refl _) _).alloc (by simp<;>omega) _).alloc (by simp<;>omega) _).alloc (by simp<;>omega) _
 have HX2:Hid (ac w1 X2 24 [.slice a n c,.int .i64 j.many,.int .i64 j.synced]):=by rw[hw1,hX2];exact aB _ (aB _ (aB _ (ak _ (by simp))))
 have HX3:Hid (ac w1 X3 27 [.slice a1 n1 c1,.slice a2 n2 c2,.int .i64 d.left,.bool d.stopped]):=by rw[hw1,hX3];exact aB _ (aB _ (ak _ (by simp)))
 have HX4:Hid (ac w1 X4 24 [.slice none 0 0,.int .i64 0,.int .i64 0]):=by rw[hw1,hX4];exact aB _ (ak _ (by simp))
 have HX5:Hid (ac w1 X5 27 [.slice none 0 0,.slice none 0 0,.int .i64 0,.bool false]):=by rw[hw1,hX5];exact ak _ (by simp)
 have hnxX2:w.heap.size<=X2:=by go_light;have:=HB.out.size;omega
 have HNXX2:=aa hnxX2
 clear hnxX2
 have hnxX3:w.heap.size<=X3:=by go_light;have:=HB.out.size;omega
 have HNXX3:=aa hnxX3
 clear hnxX3
 have hnxX4:w.heap.size<=X4:=by go_light;have:=HB.out.size;omega
 have HNXX4:=aa hnxX4
 clear hnxX4
 have hnxX5:w.heap.size<=X5:=by go_light;have:=HB.out.size;omega
 have HNXX5:=aa hnxX5
 clear hnxX5
 have hne_X2_X3:X2≠X3:=by go_light;omega
 have HNE_X2_X3:=aa hne_X2_X3
 clear hne_X2_X3
 have hne_X2_X4:X2≠X4:=by go_light;omega
 have HNE_X2_X4:=aa hne_X2_X4
 clear hne_X2_X4
 have hne_X2_X5:X2≠X5:=by go_light;omega
 have HNE_X2_X5:=aa hne_X2_X5
 clear hne_X2_X5
 have hne_X3_X4:X3≠X4:=by go_light;omega
 have HNE_X3_X4:=aa hne_X3_X4
 clear hne_X3_X4
 have hne_X3_X5:X3≠X5:=by go_light;omega
 have HNE_X3_X5:=aa hne_X3_X5
 clear hne_X3_X5
 have hne_X4_X5:X4≠X5:=by go_light;omega
 have HNE_X4_X5:=aa hne_X4_X5
 clear hne_X4_X5
 have HJ:=aa (HJ.out.below hU)
 have HD:=aa (HD.out.below hU)
 have HB:=aa (HB.out.trans (hU.mono HB.out.size))
 clear hU hw1 hX2 hX3 hX4 hX5
 obtain⟨_,c00,c01,c02,_,_,_⟩:=aJ (Below.refl _ _) HX2.out
 go_wp2_with fail
 clear c00 c01 c02
 obtain⟨ck,hck⟩:=zg j.check
 have hC:=mF a n c j w1 HJ.out
 rw[<-hck]at hC HSM
 have HC:=aa hC
 clear hC hck
 refine HC.out.mono ?_
 clear HC
 rintro e w2 ⟨rfl,hU⟩
 have HJ:=aa (HJ.out.below hU)
 have HD:=aa (HD.out.below hU)
 have HX2:=aa (HX2.out.below hU HX2.out.lt)
 have HX3:=aa (HX3.out.below hU HX3.out.lt)
 have HX4:=aa (HX4.out.below hU HX4.out.lt)
 have HX5:=aa (HX5.out.below hU HX5.out.lt)
 have HB:=aa (HB.out.trans (hU.mono HB.out.size))
 clear hU
 by_cases hc0:ck=0
 rotate_left
 ·have e1:(ck == 0)=false:=by simpa using hc0
  have e1':(ck != 0)=true:=by simpa using hc0
  have HRR:Hid (r=(.zero,.zero,ck)):=by rw[Hid,HSM.out,if_neg hc0]
  clear hc0 HSM
  obtain⟨_,e00,e01,e02,⟨u00,u01,u02⟩,y00,y01,y02⟩:=aJ (Below.refl _ _) HX4.out
  obtain⟨_,e10,e11,e12,e13,⟨u10,u11,u12,u13⟩,y10,y11,y12,y13⟩:=aF (Below.refl _ _) HX5.out
  have hq45:=HNE_X4_X5.out
  have hq54:=HNE_X4_X5.out.symm
  go_wp2_with fail
  clear hq45 hq54
  obtain⟨w3,hw3⟩:=zg ((((w2.setCell ⟨X4,0,none⟩ (.slice none 0 0)).setCell ⟨X4,1,none⟩ (.int .i64 0)).setCell ⟨X4,2,none⟩ (.int .i64 0)))
  have hoU:cU X4 w2 w3:=by rw[hw3];exact cq _ _ _ _ _ 
  have hsU:w2.heap.size<=w3.heap.size:=by rw[hw3];simp
  have hrU:ac w3 X4 24 [.slice none 0 0,.int .i64 0,.int .i64 0]:=by rw[hw3];exact bX HX4.out _ _ _ 
  have hbU:Below w.heap.size w w3:=by rw[hw3];exact aY HB.out HNXX4.out _ _ _ 
  have HJ:=aa (dt HJ.out hoU hsU (Nat.le_trans HNZ.out HNXX4.out) HX4.out (.inl rfl))
  have HD:=aa (qg HD.out hoU hsU (Nat.le_trans HNZ.out HNXX4.out) HX4.out (.inl rfl))
  have HX2:=aa (dR HX2.out hoU HNE_X2_X4.out)
  have HX3:=aa (dR HX3.out hoU HNE_X3_X4.out)
  have HX5:=aa (dR HX5.out hoU HNE_X4_X5.out.symm)
  have HX4:=aa hrU
  have HB:=aa hbU
  clear hoU hsU hrU hbU
  obtain⟨w4,hw4⟩:=zg (((((w3.setCell ⟨X5,0,none⟩ (.slice none 0 0)).setCell ⟨X5,1,none⟩ (.slice none 0 0)).setCell ⟨X5,2,none⟩ (.int .i64 0)).setCell ⟨X5,3,none⟩ (.bool false)))
  have hoU:cU X5 w3 w4:=by rw[hw4];exact l5 _ _ _ _ _ _ 
  have hsU:w3.heap.size<=w4.heap.size:=by rw[hw4];simp
  have hrU:ac w4 X5 27 [.slice none 0 0,.slice none 0 0,.int .i64 0,.bool false]:=by rw[hw4];exact nK HX5.out _ _ _ _ 
  have hbU:Below w.heap.size w w4:=by rw[hw4];exact k9 HB.out HNXX5.out _ _ _ _ 
  have HJ:=aa (dt HJ.out hoU hsU (Nat.le_trans HNZ.out HNXX5.out) HX5.out (.inr rfl))
  have HD:=aa (qg HD.out hoU hsU (Nat.le_trans HNZ.out HNXX5.out) HX5.out (.inr rfl))
  have HX2:=aa (dR HX2.out hoU HNE_X2_X5.out)
  have HX3:=aa (dR HX3.out hoU HNE_X3_X5.out)
  have HX4:=aa (dR HX4.out hoU HNE_X4_X5.out)
  have HX5:=aa hrU
  have HB:=aa hbU
  clear hoU hsU hrU hbU
  rw[<-hw3,<-hw4]
  clear hw3 hw4
  clear e00 e01 e02 u00 u01 u02 y00 y01 y02 e10 e11 e12 e13 u10 u11 u12 u13 y10 y11 y12 y13
  obtain⟨_,f0,f1,f2,_,_,_⟩:=aJ (Below.refl _ w4) HX4.out
  obtain⟨_,g0,g1,g2,g3,_,_⟩:=aF (Below.refl _ w4) HX5.out
  refine bodyPost_ret (by simp[results,Tryz.results10,go_sem,f0,f1,f2,g0,g1,g2,g3];try rfl) rfl ?_
  exact⟨ee HRR.out,HB.out⟩
 have HSM2:=aa (HSM.out.trans (if_pos hc0))
 clear HSM
 subst hc0
 obtain⟨_,c00,c01,c02,_,_,_⟩:=aJ (Below.refl _ _) HX2.out
 go_upto_region 4 with (fail)
 go_wp2_with fail
 clear c00 c01 c02
 refine(vt a n c j.recs w2 HJN.out (ic HJ.out.recs) HJ.out.s).mono ?_
 rintro e w5 ⟨hgl,hU⟩
 have HJ:=aa (HJ.out.below hU)
 have HD:=aa (HD.out.below hU)
 have HX2:=aa (HX2.out.below hU HX2.out.lt)
 have HX3:=aa (HX3.out.below hU HX3.out.lt)
 have HX4:=aa (HX4.out.below hU HX4.out.lt)
 have HX5:=aa (HX5.out.below hU HX5.out.lt)
 have HB:=aa (HB.out.trans (hU.mono HB.out.size))
 clear hU
 rcases hgl with ⟨hk2,va,vn,vc,vs,rfl,_,_⟩|⟨hk2,rfl⟩
 rotate_left
 ·have HRR:Hid (r=(.zero,.zero,500)):=by rw[Hid,HSM2.out,hk2,if_neg (by decide)]
  clear hk2 HSM2
  obtain⟨_,e00,e01,e02,⟨u00,u01,u02⟩,y00,y01,y02⟩:=aJ (Below.refl _ _) HX4.out
  obtain⟨_,e10,e11,e12,e13,⟨u10,u11,u12,u13⟩,y10,y11,y12,y13⟩:=aF (Below.refl _ _) HX5.out
  have hq45:=HNE_X4_X5.out
  have hq54:=HNE_X4_X5.out.symm
  go_wp2_with fail
  clear hq45 hq54
  obtain⟨w6,hw6⟩:=zg ((((w5.setCell ⟨X4,0,none⟩ (.slice none 0 0)).setCell ⟨X4,1,none⟩ (.int .i64 0)).setCell ⟨X4,2,none⟩ (.int .i64 0)))
  have hoU:cU X4 w5 w6:=by rw[hw6];exact cq _ _ _ _ _ 
  have hsU:w5.heap.size<=w6.heap.size:=by rw[hw6];simp
  have hrU:ac w6 X4 24 [.slice none 0 0,.int .i64 0,.int .i64 0]:=by rw[hw6];exact bX HX4.out _ _ _ 
  have hbU:Below w.heap.size w w6:=by rw[hw6];exact aY HB.out HNXX4.out _ _ _ 
  have HJ:=aa (dt HJ.out hoU hsU (Nat.le_trans HNZ.out HNXX4.out) HX4.out (.inl rfl))
  have HD:=aa (qg HD.out hoU hsU (Nat.le_trans HNZ.out HNXX4.out) HX4.out (.inl rfl))
  have HX2:=aa (dR HX2.out hoU HNE_X2_X4.out)
  have HX3:=aa (dR HX3.out hoU HNE_X3_X4.out)
  have HX5:=aa (dR HX5.out hoU HNE_X4_X5.out.symm)
  have HX4:=aa hrU
  have HB:=aa hbU
  clear hoU hsU hrU hbU
  obtain⟨w7,hw7⟩:=zg (((((w6.setCell ⟨X5,0,none⟩ (.slice none 0 0)).setCell ⟨X5,1,none⟩ (.slice none 0 0)).setCell ⟨X5,2,none⟩ (.int .i64 0)).setCell ⟨X5,3,none⟩ (.bool false)))
  have hoU:cU X5 w6 w7:=by rw[hw7];exact l5 _ _ _ _ _ _ 
  have hsU:w6.heap.size<=w7.heap.size:=by rw[hw7];simp
  have hrU:ac w7 X5 27 [.slice none 0 0,.slice none 0 0,.int .i64 0,.bool false]:=by rw[hw7];exact nK HX5.out _ _ _ _ 
  have hbU:Below w.heap.size w w7:=by rw[hw7];exact k9 HB.out HNXX5.out _ _ _ _ 
  have HJ:=aa (dt HJ.out hoU hsU (Nat.le_trans HNZ.out HNXX5.out) HX5.out (.inr rfl))
  have HD:=aa (qg HD.out hoU hsU (Nat.le_trans HNZ.out HNXX5.out) HX5.out (.inr rfl))
  have HX2:=aa (dR HX2.out hoU HNE_X2_X5.out)
  have HX3:=aa (dR HX3.out hoU HNE_X3_X5.out)
  have HX4:=aa (dR HX4.out hoU HNE_X4_X5.out)
  have HX5:=aa hrU
  have HB:=aa hbU
  clear hoU hsU hrU hbU
  rw[<-hw6,<-hw7]
  clear hw6 hw7
  clear e00 e01 e02 u00 u01 u02 y00 y01 y02 e10 e11 e12 e13 u10 u11 u12 u13 y10 y11 y12 y13
  obtain⟨_,f0,f1,f2,_,_,_⟩:=aJ (Below.refl _ w7) HX4.out
  obtain⟨_,g0,g1,g2,g3,_,_⟩:=aF (Below.refl _ w7) HX5.out
  refine bodyPost_ret (by simp[results,Tryz.results10,go_sem,f0,f1,f2,g0,g1,g2,g3];try rfl) rfl ?_
  exact⟨ee HRR.out,HB.out⟩
 have HRR:Hid (r=cC j d):=by rw[Hid,HSM2.out,if_pos hk2]
 clear hk2 HSM2
 obtain⟨_,c00,c01,c02,_,_,_⟩:=aJ (Below.refl _ _) HX2.out
 obtain⟨_,c10,c11,c12,c13,_,_,_⟩:=aF (Below.refl _ _) HX3.out
 go_upto_region 7 with (fail)
 go_wp2_with fail
 clear c00 c01 c02 c10 c11 c12 c13
 refine(DI (Nz:=Nz) a n c j a1 n1 c1 a2 n2 c2 d w5 (Nat.le_trans HNZ.out HB.out.size) HDN.out HJ.out HD.out).mono ?_
 clear HX2 HX3 HJ HD
 rintro e w8 ⟨⟨pa,pn,pc,b1,m1,f1,b2,m2,f2,rfl,hJ,hD⟩,hU⟩
 have HX4:=aa (HX4.out.below hU HX4.out.lt)
 have HX5:=aa (HX5.out.below hU HX5.out.lt)
 have HB:=aa (HB.out.trans (hU.mono HB.out.size))
 clear hU
 rw[<-HRR.out]at hJ hD ⊢
 have HJ:=aa hJ
 have HD:=aa hD
 clear hJ hD HRR
 go_upto_region 8 with (fail)
 obtain⟨w9,hw9⟩:=zg (((w8.alloc (.cells #[.slice pa pn pc,.int .i64 r.1.many,.int .i64 r.1.synced] 24)).alloc (.cells #[.slice b1 m1 f1,.slice b2 m2 f2,.int .i64 r.2.1.left,.bool r.2.1.stopped] 27)))
 obtain⟨X10,hX10⟩:=zg w8.heap.size
 obtain⟨X11,hX11⟩:=zg (w8.heap.size+1)
 rw[<-hX11]
 rw[<-hX10]
 rw[<-hw9]
 have hU:Below w8.heap.size w8 w9:=by rw[hw9];exact((Below.refl _ _).alloc (Nat.le_refl _) _).alloc (by simp) _
 have HX10:Hid (ac w9 X10 24 [.slice pa pn pc,.int .i64 r.1.many,.int .i64 r.1.synced]):=by rw[hw9,hX10];exact aB _ (ak _ rfl)
 have HX11:Hid (ac w9 X11 27 [.slice b1 m1 f1,.slice b2 m2 f2,.int .i64 r.2.1.left,.bool r.2.1.stopped]):=by rw[hw9,hX11];exact ak _ (by simp)
 have hnxX10:w.heap.size<=X10:=by go_light;have:=HB.out.size;omega
 have HNXX10:=aa hnxX10
 clear hnxX10
 have hnxX11:w.heap.size<=X11:=by go_light;have:=HB.out.size;omega
 have HNXX11:=aa hnxX11
 clear hnxX11
 have hne_X4_X10:X4≠X10:=by go_light;have:=HX4.out.lt;omega
 have HNE_X4_X10:=aa hne_X4_X10
 clear hne_X4_X10
 have hne_X5_X10:X5≠X10:=by go_light;have:=HX5.out.lt;omega
 have HNE_X5_X10:=aa hne_X5_X10
 clear hne_X5_X10
 have hne_X4_X11:X4≠X11:=by go_light;have:=HX4.out.lt;omega
 have HNE_X4_X11:=aa hne_X4_X11
 clear hne_X4_X11
 have hne_X5_X11:X5≠X11:=by go_light;have:=HX5.out.lt;omega
 have HNE_X5_X11:=aa hne_X5_X11
 clear hne_X5_X11
 have hne_X10_X11:X10≠X11:=by go_light;omega
 have HNE_X10_X11:=aa hne_X10_X11
 clear hne_X10_X11
 have HX4:=aa (HX4.out.below hU HX4.out.lt)
 have HX5:=aa (HX5.out.below hU HX5.out.lt)
 have HJ:=aa (HJ.out.below hU)
 have HD:=aa (HD.out.below hU)
 have HB:=aa (HB.out.trans (hU.mono HB.out.size))
 clear hU hw9 hX10 hX11
 refine bA (fun W=>ac W X10 24 [.slice pa pn pc,.int .i64 r.1.many,.int .i64 r.1.synced]/\ac W X11 27 [.slice b1 m1 f1,.slice b2 m2 f2,.int .i64 r.2.1.left,.bool r.2.1.stopped]) kr ?_
 change aW _ _ _ _ _ _ #[false,false,false,false,false,false] _ (World.drew w9)
 have hU:Below w9.heap.size w9 (World.drew w9):=(Below.refl _ _).drew
 generalize World.drew w9=w10 at *
 have HX4:=aa (HX4.out.below hU HX4.out.lt)
 have HX5:=aa (HX5.out.below hU HX5.out.lt)
 have HJ:=aa (HJ.out.below hU)
 have HD:=aa (HD.out.below hU)
 have HX10:=aa (HX10.out.below hU HX10.out.lt)
 have HX11:=aa (HX11.out.below hU HX11.out.lt)
 have HB:=aa (HB.out.trans (hU.mono HB.out.size))
 clear hU
 have hS:=And.intro HX10.out HX11.out
 refine aZ 0 37 (.agg #[.slice pa pn pc,.int .i64 r.1.many,.int .i64 r.1.synced]) rfl (fun W h=>fg (.tmp 10) kr X10 kr h.1) hS ?_
 try simp only[Act.put,zP]
 refine aZ 1 38 (.agg #[.slice b1 m1 f1,.slice b2 m2 f2,.int .i64 r.2.1.left,.bool r.2.1.stopped]) rfl (fun W h=>CS (.tmp 11) kr X11 kr h.2) hS ?_
 try simp only[Act.put,zP]
 refine ay 2 39 (.int .i64 r.2.2) rfl hS ?_
 try simp only[Act.put,zP]
 obtain⟨_,e00,e01,e02,⟨u00,u01,u02⟩,y00,y01,y02⟩:=aJ (Below.refl _ _) HX4.out
 obtain⟨w11,hw11⟩:=zg ((((w10.setCell ⟨X4,0,none⟩ (.slice pa pn pc)).setCell ⟨X4,1,none⟩ (.int .i64 r.1.many)).setCell ⟨X4,2,none⟩ (.int .i64 r.1.synced)))
 have hoU:cU X4 w10 w11:=by rw[hw11];exact cq _ _ _ _ _ 
 have hsU:w10.heap.size<=w11.heap.size:=by rw[hw11];simp
 have hrU:ac w11 X4 24 [.slice pa pn pc,.int .i64 r.1.many,.int .i64 r.1.synced]:=by rw[hw11];exact bX HX4.out _ _ _ 
 have hbU:Below w.heap.size w w11:=by rw[hw11];exact aY HB.out HNXX4.out _ _ _ 
 have HX5:=aa (dR HX5.out hoU HNE_X4_X5.out.symm)
 have HJ:=aa (dt HJ.out hoU hsU (Nat.le_trans HNZ.out HNXX4.out) HX4.out (.inl rfl))
 have HD:=aa (qg HD.out hoU hsU (Nat.le_trans HNZ.out HNXX4.out) HX4.out (.inl rfl))
 have HX10:=aa (dR HX10.out hoU HNE_X4_X10.out.symm)
 have HX11:=aa (dR HX11.out hoU HNE_X4_X11.out.symm)
 have HX4:=aa hrU
 have HB:=aa hbU
 clear hoU hsU hrU hbU
 refine aU 3 kr rfl kr ?_
 unfold Oper.wp
 go_simp
 rw[<-hw11]
 clear hw11 hS
 have hS:=And.intro HX10.out HX11.out
 refine⟨hS,?_⟩
 try simp only[Act.put,zP]
 clear e00 e01 e02 u00 u01 u02 y00 y01 y02
 obtain⟨_,e00,e01,e02,e03,⟨u00,u01,u02,u03⟩,y00,y01,y02,y03⟩:=aF (Below.refl _ _) HX5.out
 obtain⟨w12,hw12⟩:=zg (((((w11.setCell ⟨X5,0,none⟩ (.slice b1 m1 f1)).setCell ⟨X5,1,none⟩ (.slice b2 m2 f2)).setCell ⟨X5,2,none⟩ (.int .i64 r.2.1.left)).setCell ⟨X5,3,none⟩ (.bool r.2.1.stopped)))
 have hoU:cU X5 w11 w12:=by rw[hw12];exact l5 _ _ _ _ _ _ 
 have hsU:w11.heap.size<=w12.heap.size:=by rw[hw12];simp
 have hrU:ac w12 X5 27 [.slice b1 m1 f1,.slice b2 m2 f2,.int .i64 r.2.1.left,.bool r.2.1.stopped]:=by rw[hw12];exact nK HX5.out _ _ _ _ 
 have hbU:Below w.heap.size w w12:=by rw[hw12];exact k9 HB.out HNXX5.out _ _ _ _ 
 have HX4:=aa (dR HX4.out hoU HNE_X4_X5.out)
 have HJ:=aa (dt HJ.out hoU hsU (Nat.le_trans HNZ.out HNXX5.out) HX5.out (.inr rfl))
 have HD:=aa (qg HD.out hoU hsU (Nat.le_trans HNZ.out HNXX5.out) HX5.out (.inr rfl))
 have HX10:=aa (dR HX10.out hoU HNE_X5_X10.out.symm)
 have HX11:=aa (dR HX11.out hoU HNE_X5_X11.out.symm)
 have HX5:=aa hrU
 have HB:=aa hbU
 clear hoU hsU hrU hbU
 refine aU 4 kr rfl kr ?_
 unfold Oper.wp
 go_simp
 rw[<-hw12]
 clear hw12 hS
 have hS:=And.intro HX10.out HX11.out
 refine⟨hS,?_⟩
 try simp only[Act.put,zP]
 clear e00 e01 e02 e03 u00 u01 u02 u03 y00 y01 y02 y03
 refine ay 5 6 (.int .i64 r.2.2) rfl hS ?_
 try simp only[Act.put,zP]
 clear hS
 refine bp kr ?_
 go_wp2_with fail
 obtain⟨_,f0,f1,f2,_,_,_⟩:=aJ (Below.refl _ w12) HX4.out
 obtain⟨_,g0,g1,g2,g3,_,_⟩:=aF (Below.refl _ w12) HX5.out
 refine bodyPost_ret (by simp[results,Tryz.results10,go_sem,f0,f1,f2,g0,g1,g2,g3];try rfl) rfl ?_
 exact⟨⟨_,_,_,_,_,_,_,_,_,rfl,HJ.out,HD.out⟩,HB.out⟩
end Go.Proofs.YtmflnpdmlfmcpaaGreatDoor.Dr
