/- Joined texts. -/
import Derived.Test.YtmflnpdmlfmcpaaGreatDoorJp46
import Derived.Test.YtmflnpdmlfmcpaaGreatDoorJp47
import Derived.Test.YtmflnpdmlfmcpaaGreatDoorJp48
import Derived.Test.YtmflnpdmlfmcpaaGreatDoorJp49
import Derived.Test.YtmflnpdmlfmcpaaGreatDoorJp43
set_option maxRecDepth 100000
set_option maxHeartbeats 16000000
namespace Go.Proofs.YtmflnpdmlfmcpaaGreatDoor.Dr
open Go.RowKit Go.Shelf
theorem Bm : ∀x ∈ [qi],x.data.length<=100000:=by
 intro x hx
 simp only[List.mem_singleton]at hx
 subst hx
 show ([7]:List UInt8).length<=100000
 decide
theorem iY : ∀x ∈ ([]:List ar),x.data.length<=100000:=fun x hx=>by cases hx
theorem o7 {o:Oper}{act:Act}{W:World}(ho:o.op=.makeSlice 40 (.const (.int .i64 100)) (.const (.int .i64 100))):(execOp act.eval o).run Tryz.prog W=.ok (.value (.slice (some ⟨W.heap.size,0,none⟩) 100 100)) (W.alloc (.cells (af (List.replicate 100 0)).toArray 5)):=by
 have h:(Instr.makeSlice 40 (.int .i64 100) (.int .i64 100)).run Tryz.prog W=.ok (.slice (some ⟨W.heap.size,0,none⟩) 100 100) (W.alloc (.cells (af (List.replicate 100 0)).toArray 5)):=kr
 have hq:act.eval (.const (.int .i64 100))=.int .i64 100:=rfl
 unfold execOp
 simp only[ho,hq]
 rw[Sem.run_bind,h]
 rfl
theorem xQ {o:Oper}{a:Act}{W:World}(x:Operand)(ho:o.op=.load 48 x)(b off:Nat)(hx:a.eval x=.pointer (some ⟨b,off,none⟩))(p:List UInt8)(hp:p.length=32)(hc:W.rangeAt b off (af p)):(execOp a.eval o).run Tryz.prog W=.ok (.value (br p)) W:=
 aH 48 x ho b off hx (af p) _ hc Tryz.underlying48 rfl (iW hp)
theorem qA {o:Oper}{a:Act}{W:World}(x y:Operand)(ho:o.op=.binOp .eql 48 x y 48)(p:List UInt8)(hx:a.eval x=br p)(hy:a.eval y=br p)(hp:p.length=32):(execOp a.eval o).run Tryz.prog W=.ok (.value (.bool true)) W:=td x y ho p hx hy hp
theorem th {o:Oper}{a:Act}{W:World}(x:Operand)(ho:o.op=.load 22 x)(p:Addr){v:Value}(hx:a.eval x=.pointer (some p))(hc:W.cell? p=some v):(execOp a.eval o).run Tryz.prog W=.ok (.value v) W:=by
 unfold execOp
 simp only[ho,hx]
 go_simp
theorem na {o:Oper}{a:Act}{W:World}(x:Operand)(ho:o.op=.load 3 x)(p:Addr){v:Value}(hx:a.eval x=.pointer (some p))(hc:W.cell? p=some v):(execOp a.eval o).run Tryz.prog W=.ok (.value v) W:=by
 unfold execOp
 simp only[ho,hx]
 go_simp
theorem jQ {o:Oper}{act:Act}{W:World}(p:Operand)(ho:o.op=.indexAddr 30 p (.const (.int .i64 0)))(b off n c:Nat)(hp:act.eval p=.slice (some ⟨b,off,none⟩) n c)(hk:0<n) :
  (execOp act.eval o).run Tryz.prog W=.ok (.value (.pointer (some ⟨b,off+0*35,none⟩))) W:=
 iq p (.const (.int .i64 0)) ho b off n c 0 hp rfl hk
theorem vC {W:World}{b o:Nat}{a:Option Addr}{n c:Nat}(h:W.rangeAt b o (ah qi a n c)):W.cell? ⟨b,o,none⟩=some (.int .i64 3):=by
 have h0:=h 0 _ (dj qi a n c)
 rw[Nat.add_zero]at h0
 exact h0
theorem xR {Nz:Nat}{w:World}{X:Nat}(h:w.heap[X]? = some (.cells #[.int .u8 1] 5 (0,0))):aN Nz w [.slice (some ⟨X,0,none⟩) 1 1] [1]:=
 ⟨_,_,_,rfl,by unfold maxLen;omega,Nat.le_refl _,jO [1] 1 rfl h,bO.row h (.inl rfl)⟩
theorem vD (w:World)(hi:dV w):Calls Tryz.prog 5 #[] w fun e w'=>e=.returned (.bool true)/\Below w.heap.size w w':=by
 obtain⟨x,odd,y,q,k,hs⟩:=vl
 have HI:=aa hi
 have HS:=aa hs
 have HB:Hid (Below w.heap.size w w):=Below.refl _ _
 obtain⟨d9,hd9⟩:=zg (aj.fresh 9)
 obtain⟨d1,hd1⟩:=zg (aj.fresh 1)
 have OW:Hid (eS d9=(⟨[],9,0⟩,[],0)):=by rw[hd9];exact(dK.start 9 om om).opened
 have OV:Hid (eS d1=(⟨[],1,0⟩,[],0)):=by rw[hd1];exact(dK.start 1 om om).opened
 have HN9:Hid (d9.secs.length=9):=by rw[hd9];simp[aj.fresh,Hid]
 have HN1:Hid (d1.secs.length=1):=by rw[hd1];simp[aj.fresh,Hid]
 have KS:Hid (iE x d9=(k,y,0)):=by rw[hd9];exact hs.ks
 obtain⟨zq,hzq⟩:=hs.qs
 have QS:Hid (cC odd d9=(zq,q,0)):=by rw[hd9];exact hzq
 obtain⟨zh,hzh⟩:=hs.hw
 have HW:=aa hzh
 obtain⟨zy,hzy⟩:=hs.yo
 have YO:=aa hzy
 have K1:=aa hs.k1
 have HD9:Hid (aj.fresh 9=d9):=hd9.symm
 have HD1:Hid (aj.fresh 1=d1):=hd1.symm
 clear hi hs hzq hzh hzy hd9 hd1
 obtain⟨z9,hz9⟩:∃z:am,z=⟨[],9,0⟩:=⟨_,rfl⟩
 go_enter Tryz.func5,Tryz.ntmps5
 go_wp2_with fail
 have hC:=Eh (Nz:=w.heap.size) 9 w om om
 rw[HD9.out]at hC
 refine hC.mono ?_
 clear hC
 rintro e w1 ⟨⟨a1,n1,c1,a2,n2,c2,rfl,hD⟩,hU⟩
 have HB:=aa (HB.out.trans (hU.mono HB.out.size))
 clear hU
 have HD:=aa hD
 have N1:Hid (n1=9):=by have:=hD.secs.len;have:=HN9.out;show _=_;omega
 clear hD
 go_upto_region 2 with (fail)
 obtain⟨w2,hw2⟩:=zg ((w1.alloc (.cells #[.slice a1 n1 c1,.slice a2 n2 c2,.int .i64 d9.left,.bool d9.stopped] 27)))
 obtain⟨X1,hX1⟩:=zg w1.heap.size
 rw[<-hX1]
 rw[<-hw2]
 have hU:Below w1.heap.size w1 w2:=by rw[hw2];exact(Below.refl _ _).alloc (Nat.le_refl _) _
 have HX1:Hid (ac w2 X1 27 [.slice a1 n1 c1,.slice a2 n2 c2,.int .i64 d9.left,.bool d9.stopped]):=by rw[hw2,hX1];exact ak _ rfl
 have HD:=aa (HD.out.below hU)
 have HB:=aa (HB.out.trans (hU.mono HB.out.size))
 clear hU hw2 hX1
 obtain⟨_,c00,c01,c02,c03,_,_,_⟩:=aF (Below.refl _ _) HX1.out
 go_wp2_with fail
 refine(my (Nz:=w.heap.size) (fun _=>by have:=N1.out;omega) (HI.out.below HB.out) HD.out OW.out).mono ?_
 clear c00 c01 c02 c03
 rintro e w3 ⟨⟨ja,jn,jc,la,ln,lc,rfl,hJ,hlc,hL⟩,hU⟩
 have HD:=aa (HD.out.below hU)
 have HX1:=aa (HX1.out.below hU HX1.out.lt)
 have HB:=aa (HB.out.trans (hU.mono HB.out.size))
 clear hU
 obtain rfl:jn=0:=hJ.recs.len.symm
 obtain rfl:ln=0:=hL.len.symm
 have HJ:=aa hJ
 have HL:=aa hL
 clear hJ hL
 go_upto_region 3 with (fail)
 obtain⟨w4,hw4⟩:=zg ((w3.alloc (.cells #[.slice ja 0 jc,.int .i64 9,.int .i64 0] 24)))
 obtain⟨X3,hX3⟩:=zg w3.heap.size
 rw[<-hX3]
 rw[<-hw4]
 have hU:Below w3.heap.size w3 w4:=by rw[hw4];exact(Below.refl _ _).alloc (Nat.le_refl _) _
 have HX3:Hid (ac w4 X3 24 [.slice ja 0 jc,.int .i64 9,.int .i64 0]):=by rw[hw4,hX3];exact ak _ rfl
 have HD:=aa (HD.out.below hU)
 have HX1:=aa (HX1.out.below hU HX1.out.lt)
 have HJ:=aa (HJ.out.below hU)
 have HL:=aa (HL.out.below aq.keeps hU)
 have HB:=aa (HB.out.trans (hU.mono HB.out.size))
 clear hU hw4 hX3
 obtain⟨_,c00,c01,c02,_,_,_⟩:=aJ (Below.refl _ _) HX3.out
 go_wp2_with fail
 clear c00 c01 c02
 obtain⟨v7,hv7⟩:=zg (w4.alloc (.cells #[.int .u8 7] 5))
 obtain⟨X7,hX7⟩:=zg w4.heap.size
 rw[<-hX7,<-hv7]
 have hU:Below w4.heap.size w4 v7:=by rw[hv7];exact(Below.refl _ _).alloc (Nat.le_refl _) _
 have hb7:Sl 1 ai v7 (some ⟨X7,0,none⟩) 1 [7]:=by rw[hv7,hX7];exact jO [7] 1 rfl (ak _ rfl)
 have HD:=aa (HD.out.below hU)
 have HX1:=aa (HX1.out.below hU HX1.out.lt)
 have HJ:=aa (HJ.out.below hU)
 have HL:=aa (HL.out.below aq.keeps hU)
 have HX3:=aa (HX3.out.below hU HX3.out.lt)
 have HB:=aa (HB.out.trans (hU.mono HB.out.size))
 clear hU hv7 hX7
 refine(ir (Nz:=w.heap.size) HB.out.size (HI.out.below HB.out) HJ.out om om HL.out iY ⟨om,om⟩ om hb7 HS.out.xw).mono ?_
 clear hb7
 rintro e w5 ⟨⟨xa,xn,xc,ma,mn,mc,rfl,hX,hmc,hM⟩,hU⟩
 have HD:=aa (HD.out.below hU)
 have HX1:=aa (HX1.out.below hU HX1.out.lt)
 have HJ:=aa (HJ.out.below hU)
 have HL:=aa (HL.out.below aq.keeps hU)
 have HX3:=aa (HX3.out.below hU HX3.out.lt)
 have HB:=aa (HB.out.trans (hU.mono HB.out.size))
 clear hU
 obtain rfl:mn=1:=hM.len.symm
 have HXJ:=aa hX
 have HM:=aa hM
 clear hX hM
 go_upto_region 4 with (fail)
 obtain⟨w6,hw6⟩:=zg ((w5.alloc (.cells #[.slice xa xn xc,.int .i64 x.many,.int .i64 x.synced] 24)))
 obtain⟨X6,hX6⟩:=zg w5.heap.size
 rw[<-hX6]
 rw[<-hw6]
 have hU:Below w5.heap.size w5 w6:=by rw[hw6];exact(Below.refl _ _).alloc (Nat.le_refl _) _
 have HX6:Hid (ac w6 X6 24 [.slice xa xn xc,.int .i64 x.many,.int .i64 x.synced]):=by rw[hw6,hX6];exact ak _ rfl
 have HD:=aa (HD.out.below hU)
 have HX1:=aa (HX1.out.below hU HX1.out.lt)
 have HJ:=aa (HJ.out.below hU)
 have HL:=aa (HL.out.below aq.keeps hU)
 have HX3:=aa (HX3.out.below hU HX3.out.lt)
 have HXJ:=aa (HXJ.out.below hU)
 have HM:=aa (HM.out.below aq.keeps hU)
 have HB:=aa (HB.out.trans (hU.mono HB.out.size))
 clear hU hw6 hX6
 obtain⟨_,c00,c01,c02,_,_,_⟩:=aJ (Below.refl _ _) HX3.out
 go_wp2_with fail
 clear c00 c01 c02
 refine(ir (Nz:=w.heap.size) HB.out.size (HI.out.below HB.out) HJ.out om hmc HM.out Bm ⟨om,om⟩ om (Sl.nil _ _ _ _) HW.out).mono ?_
 rintro e w7 ⟨⟨za,zn,zc,ya,yn,yc,rfl,_,_,_⟩,hU⟩
 have HD:=aa (HD.out.below hU)
 have HX1:=aa (HX1.out.below hU HX1.out.lt)
 have HJ:=aa (HJ.out.below hU)
 have HL:=aa (HL.out.below aq.keeps hU)
 have HX3:=aa (HX3.out.below hU HX3.out.lt)
 have HXJ:=aa (HXJ.out.below hU)
 have HM:=aa (HM.out.below aq.keeps hU)
 have HX6:=aa (HX6.out.below hU HX6.out.lt)
 have HB:=aa (HB.out.trans (hU.mono HB.out.size))
 clear hU
 go_upto_region 5 with (fail)
 obtain⟨w8,hw8⟩:=zg ((w7.alloc (.cells #[.slice za zn zc,.int .i64 zh.many,.int .i64 zh.synced] 24)))
 obtain⟨X9,hX9⟩:=zg w7.heap.size
 rw[<-hX9]
 rw[<-hw8]
 have hU:Below w7.heap.size w7 w8:=by rw[hw8];exact(Below.refl _ _).alloc (Nat.le_refl _) _
 have HX9:Hid (ac w8 X9 24 [.slice za zn zc,.int .i64 zh.many,.int .i64 zh.synced]):=by rw[hw8,hX9];exact ak _ rfl
 have HD:=aa (HD.out.below hU)
 have HX1:=aa (HX1.out.below hU HX1.out.lt)
 have HJ:=aa (HJ.out.below hU)
 have HL:=aa (HL.out.below aq.keeps hU)
 have HX3:=aa (HX3.out.below hU HX3.out.lt)
 have HXJ:=aa (HXJ.out.below hU)
 have HM:=aa (HM.out.below aq.keeps hU)
 have HX6:=aa (HX6.out.below hU HX6.out.lt)
 have HB:=aa (HB.out.trans (hU.mono HB.out.size))
 clear hU hw8 hX9
 clear HX9
 go_wp2_with fail
 refine(ir (Nz:=w.heap.size) (j:=⟨[],0,0⟩) HB.out.size (HI.out.below HB.out) (iB _) om (Nat.le_refl _) (Sl.nil _ _ _ _) iY ⟨om,om⟩ om (Sl.nil _ _ _ _) HS.out.iw).mono ?_
 rintro e w9 ⟨⟨za,zn,zc,ya,yn,yc,rfl,_,_,_⟩,hU⟩
 have HD:=aa (HD.out.below hU)
 have HX1:=aa (HX1.out.below hU HX1.out.lt)
 have HJ:=aa (HJ.out.below hU)
 have HL:=aa (HL.out.below aq.keeps hU)
 have HX3:=aa (HX3.out.below hU HX3.out.lt)
 have HXJ:=aa (HXJ.out.below hU)
 have HM:=aa (HM.out.below aq.keeps hU)
 have HX6:=aa (HX6.out.below hU HX6.out.lt)
 have HB:=aa (HB.out.trans (hU.mono HB.out.size))
 clear hU
 go_upto_region 6 with (fail)
 obtain⟨w10,hw10⟩:=zg ((w9.alloc (.cells #[.slice za zn zc,.int .i64 am.zero.many,.int .i64 am.zero.synced] 24)))
 obtain⟨X12,hX12⟩:=zg w9.heap.size
 rw[<-hX12]
 rw[<-hw10]
 have hU:Below w9.heap.size w9 w10:=by rw[hw10];exact(Below.refl _ _).alloc (Nat.le_refl _) _
 have HX12:Hid (ac w10 X12 24 [.slice za zn zc,.int .i64 am.zero.many,.int .i64 am.zero.synced]):=by rw[hw10,hX12];exact ak _ rfl
 have HD:=aa (HD.out.below hU)
 have HX1:=aa (HX1.out.below hU HX1.out.lt)
 have HJ:=aa (HJ.out.below hU)
 have HL:=aa (HL.out.below aq.keeps hU)
 have HX3:=aa (HX3.out.below hU HX3.out.lt)
 have HXJ:=aa (HXJ.out.below hU)
 have HM:=aa (HM.out.below aq.keeps hU)
 have HX6:=aa (HX6.out.below hU HX6.out.lt)
 have HB:=aa (HB.out.trans (hU.mono HB.out.size))
 clear hU hw10 hX12
 clear HX12
 obtain⟨_,c00,c01,c02,_,_,_⟩:=aJ (Below.refl _ _) HX6.out
 obtain⟨_,c10,c11,c12,c13,_,_,_⟩:=aF (Below.refl _ _) HX1.out
 go_wp2_with fail
 clear c00 c01 c02 c10 c11 c12 c13
 refine(Bk (Nz:=w.heap.size) HB.out.size (fun _=>by have:=N1.out;omega) (HI.out.below HB.out) HXJ.out HD.out KS.out).mono ?_
 rintro e w11 ⟨⟨ka,kn,kc,b1,m1,e1,b2,m2,e2,rfl,hK,hY⟩,hU⟩
 have HD:=aa (HD.out.below hU)
 have HX1:=aa (HX1.out.below hU HX1.out.lt)
 have HJ:=aa (HJ.out.below hU)
 have HL:=aa (HL.out.below aq.keeps hU)
 have HX3:=aa (HX3.out.below hU HX3.out.lt)
 have HXJ:=aa (HXJ.out.below hU)
 have HM:=aa (HM.out.below aq.keeps hU)
 have HX6:=aa (HX6.out.below hU HX6.out.lt)
 have HB:=aa (HB.out.trans (hU.mono HB.out.size))
 clear hU
 have HY:=aa hY
 have M1:Hid (m1=9):=by have:=hY.secs.len;have:=HS.out.yl;show _=_;omega
 clear hY hK
 clear HX6 HXJ
 go_upto_region 7 with (fail)
 obtain⟨w12,hw12⟩:=zg (((w11.alloc (.cells #[.slice ka kn kc,.int .i64 k.many,.int .i64 k.synced] 24)).alloc (.cells #[.slice b1 m1 e1,.slice b2 m2 e2,.int .i64 y.left,.bool y.stopped] 27)))
 obtain⟨X15,hX15⟩:=zg w11.heap.size
 obtain⟨X16,hX16⟩:=zg (w11.heap.size+1)
 rw[<-hX16]
 rw[<-hX15]
 rw[<-hw12]
 have hU:Below w11.heap.size w11 w12:=by rw[hw12];exact((Below.refl _ _).alloc (Nat.le_refl _) _).alloc (by simp) _
 have HX15:Hid (ac w12 X15 24 [.slice ka kn kc,.int .i64 k.many,.int .i64 k.synced]):=by rw[hw12,hX15];exact aB _ (ak _ rfl)
 have HX16:Hid (ac w12 X16 27 [.slice b1 m1 e1,.slice b2 m2 e2,.int .i64 y.left,.bool y.stopped]):=by rw[hw12,hX16];exact ak _ (by simp)
 have HD:=aa (HD.out.below hU)
 have HX1:=aa (HX1.out.below hU HX1.out.lt)
 have HJ:=aa (HJ.out.below hU)
 have HL:=aa (HL.out.below aq.keeps hU)
 have HX3:=aa (HX3.out.below hU HX3.out.lt)
 have HM:=aa (HM.out.below aq.keeps hU)
 have HY:=aa (HY.out.below hU)
 have HB:=aa (HB.out.trans (hU.mono HB.out.size))
 clear hU hw12 hX15 hX16
 obtain⟨_,c00,c01,c02,c03,_,_,_⟩:=aF (Below.refl _ _) HX16.out
 go_wp2_with fail
 clear c00 c01 c02 c03
 refine(my (Nz:=w.heap.size) (fun _=>by have:=M1.out;omega) (HI.out.below HB.out) HY.out YO.out).mono ?_
 clear HY HX16
 rintro e w13 ⟨⟨za,zn,zc,ga,gn,gc,rfl,_,hgc,hG⟩,hU⟩
 have HD:=aa (HD.out.below hU)
 have HX1:=aa (HX1.out.below hU HX1.out.lt)
 have HJ:=aa (HJ.out.below hU)
 have HL:=aa (HL.out.below aq.keeps hU)
 have HX3:=aa (HX3.out.below hU HX3.out.lt)
 have HM:=aa (HM.out.below aq.keeps hU)
 have HX15:=aa (HX15.out.below hU HX15.out.lt)
 have HB:=aa (HB.out.trans (hU.mono HB.out.size))
 clear hU
 obtain rfl:gn=1:=hG.len.symm
 have HG:=aa hG
 clear hG
 go_upto_region 8 with (fail)
 obtain⟨w14,hw14⟩:=zg ((w13.alloc (.cells #[.slice za zn zc,.int .i64 zy.many,.int .i64 zy.synced] 24)))
 obtain⟨X18,hX18⟩:=zg w13.heap.size
 rw[<-hX18]
 rw[<-hw14]
 have hU:Below w13.heap.size w13 w14:=by rw[hw14];exact(Below.refl _ _).alloc (Nat.le_refl _) _
 have HX18:Hid (ac w14 X18 24 [.slice za zn zc,.int .i64 zy.many,.int .i64 zy.synced]):=by rw[hw14,hX18];exact ak _ rfl
 have HD:=aa (HD.out.below hU)
 have HX1:=aa (HX1.out.below hU HX1.out.lt)
 have HJ:=aa (HJ.out.below hU)
 have HL:=aa (HL.out.below aq.keeps hU)
 have HX3:=aa (HX3.out.below hU HX3.out.lt)
 have HM:=aa (HM.out.below aq.keeps hU)
 have HX15:=aa (HX15.out.below hU HX15.out.lt)
 have HG:=aa (HG.out.below aq.keeps hU)
 have HB:=aa (HB.out.trans (hU.mono HB.out.size))
 clear hU hw14 hX18
 clear HX18
 obtain⟨_,c00,c01,c02,_,_,_⟩:=aJ (Below.refl _ _) HX3.out
 go_wp2_with fail
 clear c00 c01 c02
 obtain⟨v8,hv8⟩:=zg (w14.alloc (.cells #[.int .u8 1] 5))
 obtain⟨X8,hX8⟩:=zg w14.heap.size
 rw[<-hX8,<-hv8]
 have hU:Below w14.heap.size w14 v8:=by rw[hv8];exact(Below.refl _ _).alloc (Nat.le_refl _) _
 have hr8:v8.heap[X8]? = some (.cells #[.int .u8 1] 5 (0,0)):=by rw[hv8,hX8];exact ak _ rfl
 have hb8:aN w.heap.size v8 [.slice (some ⟨X8,0,none⟩) 1 1] [1]:=xR hr8
 have HD:=aa (HD.out.below hU)
 have HX1:=aa (HX1.out.below hU HX1.out.lt)
 have HJ:=aa (HJ.out.below hU)
 have HL:=aa (HL.out.below aq.keeps hU)
 have HX3:=aa (HX3.out.below hU HX3.out.lt)
 have HM:=aa (HM.out.below aq.keeps hU)
 have HX15:=aa (HX15.out.below hU HX15.out.lt)
 have HG:=aa (HG.out.below aq.keeps hU)
 have HB:=aa (HB.out.trans (hU.mono HB.out.size))
 clear hU hv8 hX8 hr8
 refine(zL (Nz:=w.heap.size) HB.out.size HJ.out (by decide) (by decide) hb8 HS.out.od).mono ?_
 clear hb8
 rintro e w15 ⟨⟨oa,on,oc,rfl,hO⟩,hU⟩
 have HD:=aa (HD.out.below hU)
 have HX1:=aa (HX1.out.below hU HX1.out.lt)
 have HJ:=aa (HJ.out.below hU)
 have HL:=aa (HL.out.below aq.keeps hU)
 have HX3:=aa (HX3.out.below hU HX3.out.lt)
 have HM:=aa (HM.out.below aq.keeps hU)
 have HX15:=aa (HX15.out.below hU HX15.out.lt)
 have HG:=aa (HG.out.below aq.keeps hU)
 have HB:=aa (HB.out.trans (hU.mono HB.out.size))
 clear hU
 have HO:=aa hO
 clear hO
 go_upto_region 9 with (fail)
 obtain⟨w16,hw16⟩:=zg ((w15.alloc (.cells #[.slice oa on oc,.int .i64 odd.many,.int .i64 odd.synced] 24)))
 obtain⟨X21,hX21⟩:=zg w15.heap.size
 rw[<-hX21]
 rw[<-hw16]
 have hU:Below w15.heap.size w15 w16:=by rw[hw16];exact(Below.refl _ _).alloc (Nat.le_refl _) _
 have HX21:Hid (ac w16 X21 24 [.slice oa on oc,.int .i64 odd.many,.int .i64 odd.synced]):=by rw[hw16,hX21];exact ak _ rfl
 have HD:=aa (HD.out.below hU)
 have HX1:=aa (HX1.out.below hU HX1.out.lt)
 have HJ:=aa (HJ.out.below hU)
 have HL:=aa (HL.out.below aq.keeps hU)
 have HX3:=aa (HX3.out.below hU HX3.out.lt)
 have HM:=aa (HM.out.below aq.keeps hU)
 have HX15:=aa (HX15.out.below hU HX15.out.lt)
 have HG:=aa (HG.out.below aq.keeps hU)
 have HO:=aa (HO.out.below hU)
 have HB:=aa (HB.out.trans (hU.mono HB.out.size))
 clear hU hw16 hX21
 obtain⟨_,c00,c01,c02,_,_,_⟩:=aJ (Below.refl _ _) HX21.out
 obtain⟨_,c10,c11,c12,c13,_,_,_⟩:=aF (Below.refl _ _) HX1.out
 go_wp2_with fail
 clear c00 c01 c02 c10 c11 c12 c13
 refine(Bl (Nz:=w.heap.size) HB.out.size (fun _=>by have:=N1.out;omega) HO.out HD.out QS.out).mono ?_
 clear HO HX21 HD HX1
 rintro e w17 ⟨⟨za,zn,zc,b1,m1,e1,b2,m2,e2,rfl,_,hY⟩,hU⟩
 have HJ:=aa (HJ.out.below hU)
 have HL:=aa (HL.out.below aq.keeps hU)
 have HX3:=aa (HX3.out.below hU HX3.out.lt)
 have HM:=aa (HM.out.below aq.keeps hU)
 have HX15:=aa (HX15.out.below hU HX15.out.lt)
 have HG:=aa (HG.out.below aq.keeps hU)
 have HB:=aa (HB.out.trans (hU.mono HB.out.size))
 clear hU
 have HY:=aa hY
 have M1:Hid (m1=9):=by have:=hY.secs.len;have:=HS.out.ql;show _=_;omega
 clear hY
 go_upto_region 10 with (fail)
 obtain⟨w18,hw18⟩:=zg (((w17.alloc (.cells #[.slice za zn zc,.int .i64 zq.many,.int .i64 zq.synced] 24)).alloc (.cells #[.slice b1 m1 e1,.slice b2 m2 e2,.int .i64 q.left,.bool q.stopped] 27)))
 obtain⟨X23,hX23⟩:=zg w17.heap.size
 obtain⟨X24,hX24⟩:=zg (w17.heap.size+1)
 rw[<-hX24]
 rw[<-hX23]
 rw[<-hw18]
 have hU:Below w17.heap.size w17 w18:=by rw[hw18];exact((Below.refl _ _).alloc (Nat.le_refl _) _).alloc (by simp) _
 have HX23:Hid (ac w18 X23 24 [.slice za zn zc,.int .i64 zq.many,.int .i64 zq.synced]):=by rw[hw18,hX23];exact aB _ (ak _ rfl)
 have HX24:Hid (ac w18 X24 27 [.slice b1 m1 e1,.slice b2 m2 e2,.int .i64 q.left,.bool q.stopped]):=by rw[hw18,hX24];exact ak _ (by simp)
 have HJ:=aa (HJ.out.below hU)
 have HL:=aa (HL.out.below aq.keeps hU)
 have HX3:=aa (HX3.out.below hU HX3.out.lt)
 have HM:=aa (HM.out.below aq.keeps hU)
 have HX15:=aa (HX15.out.below hU HX15.out.lt)
 have HG:=aa (HG.out.below aq.keeps hU)
 have HY:=aa (HY.out.below hU)
 have HB:=aa (HB.out.trans (hU.mono HB.out.size))
 clear hU hw18 hX23 hX24
 clear HX23
 obtain⟨_,c00,c01,c02,c03,_,_,_⟩:=aF (Below.refl _ _) HX24.out
 go_wp2_with fail
 clear c00 c01 c02 c03
 refine(my (Nz:=w.heap.size) (fun _=>by have:=M1.out;omega) (HI.out.below HB.out) HY.out HS.out.qo).mono ?_
 clear HY HX24
 rintro e w19 ⟨⟨za,zn,zc,ya,yn,yc,rfl,_,_,_⟩,hU⟩
 have HJ:=aa (HJ.out.below hU)
 have HL:=aa (HL.out.below aq.keeps hU)
 have HX3:=aa (HX3.out.below hU HX3.out.lt)
 have HM:=aa (HM.out.below aq.keeps hU)
 have HX15:=aa (HX15.out.below hU HX15.out.lt)
 have HG:=aa (HG.out.below aq.keeps hU)
 have HB:=aa (HB.out.trans (hU.mono HB.out.size))
 clear hU
 go_upto_region 11 with (fail)
 obtain⟨w20,hw20⟩:=zg ((w19.alloc (.cells #[.slice za zn zc,.int .i64 am.zero.many,.int .i64 am.zero.synced] 24)))
 obtain⟨X26,hX26⟩:=zg w19.heap.size
 rw[<-hX26]
 rw[<-hw20]
 have hU:Below w19.heap.size w19 w20:=by rw[hw20];exact(Below.refl _ _).alloc (Nat.le_refl _) _
 have HX26:Hid (ac w20 X26 24 [.slice za zn zc,.int .i64 am.zero.many,.int .i64 am.zero.synced]):=by rw[hw20,hX26];exact ak _ rfl
 have HJ:=aa (HJ.out.below hU)
 have HL:=aa (HL.out.below aq.keeps hU)
 have HX3:=aa (HX3.out.below hU HX3.out.lt)
 have HM:=aa (HM.out.below aq.keeps hU)
 have HX15:=aa (HX15.out.below hU HX15.out.lt)
 have HG:=aa (HG.out.below aq.keeps hU)
 have HB:=aa (HB.out.trans (hU.mono HB.out.size))
 clear hU hw20 hX26
 clear HX26
 go_wp2_with fail
 have hC:=Eh (Nz:=w.heap.size) 1 w20 om om
 rw[HD1.out]at hC
 refine hC.mono ?_
 clear hC
 rintro e w21 ⟨⟨a1,n1,c1,a2,n2,c2,rfl,hD⟩,hU⟩
 have HJ:=aa (HJ.out.below hU)
 have HL:=aa (HL.out.below aq.keeps hU)
 have HX3:=aa (HX3.out.below hU HX3.out.lt)
 have HM:=aa (HM.out.below aq.keeps hU)
 have HX15:=aa (HX15.out.below hU HX15.out.lt)
 have HG:=aa (HG.out.below aq.keeps hU)
 have HB:=aa (HB.out.trans (hU.mono HB.out.size))
 clear hU
 have HD:=aa hD
 have N1:Hid (n1=1):=by have:=hD.secs.len;have:=HN1.out;show _=_;omega
 clear hD
 go_upto_region 12 with (fail)
 obtain⟨w22,hw22⟩:=zg ((w21.alloc (.cells #[.slice a1 n1 c1,.slice a2 n2 c2,.int .i64 d1.left,.bool d1.stopped] 27)))
 obtain⟨X29,hX29⟩:=zg w21.heap.size
 rw[<-hX29]
 rw[<-hw22]
 have hU:Below w21.heap.size w21 w22:=by rw[hw22];exact(Below.refl _ _).alloc (Nat.le_refl _) _
 have HX29:Hid (ac w22 X29 27 [.slice a1 n1 c1,.slice a2 n2 c2,.int .i64 d1.left,.bool d1.stopped]):=by rw[hw22,hX29];exact ak _ rfl
 have HJ:=aa (HJ.out.below hU)
 have HL:=aa (HL.out.below aq.keeps hU)
 have HX3:=aa (HX3.out.below hU HX3.out.lt)
 have HM:=aa (HM.out.below aq.keeps hU)
 have HX15:=aa (HX15.out.below hU HX15.out.lt)
 have HG:=aa (HG.out.below aq.keeps hU)
 have HD:=aa (HD.out.below hU)
 have HB:=aa (HB.out.trans (hU.mono HB.out.size))
 clear hU hw22 hX29
 obtain⟨_,c00,c01,c02,c03,_,_,_⟩:=aF (Below.refl _ _) HX29.out
 go_wp2_with fail
 clear c00 c01 c02 c03
 refine(my (Nz:=w.heap.size) (fun _=>by have:=N1.out;omega) (HI.out.below HB.out) HD.out OV.out).mono ?_
 clear HX29 HD
 rintro e w23 ⟨⟨oa,on,oc,ya,yn,yc,rfl,hO,_,_⟩,hU⟩
 have HJ:=aa (HJ.out.below hU)
 have HL:=aa (HL.out.below aq.keeps hU)
 have HX3:=aa (HX3.out.below hU HX3.out.lt)
 have HM:=aa (HM.out.below aq.keeps hU)
 have HX15:=aa (HX15.out.below hU HX15.out.lt)
 have HG:=aa (HG.out.below aq.keeps hU)
 have HB:=aa (HB.out.trans (hU.mono HB.out.size))
 clear hU
 have HO:=aa hO
 clear hO
 go_upto_region 13 with (fail)
 obtain⟨w24,hw24⟩:=zg ((w23.alloc (.cells #[.slice oa on oc,.int .i64 1,.int .i64 0] 24)))
 obtain⟨X31,hX31⟩:=zg w23.heap.size
 rw[<-hX31]
 rw[<-hw24]
 have hU:Below w23.heap.size w23 w24:=by rw[hw24];exact(Below.refl _ _).alloc (Nat.le_refl _) _
 have HX31:Hid (ac w24 X31 24 [.slice oa on oc,.int .i64 1,.int .i64 0]):=by rw[hw24,hX31];exact ak _ rfl
 have HJ:=aa (HJ.out.below hU)
 have HL:=aa (HL.out.below aq.keeps hU)
 have HX3:=aa (HX3.out.below hU HX3.out.lt)
 have HM:=aa (HM.out.below aq.keeps hU)
 have HX15:=aa (HX15.out.below hU HX15.out.lt)
 have HG:=aa (HG.out.below aq.keeps hU)
 have HO:=aa (HO.out.below hU)
 have HB:=aa (HB.out.trans (hU.mono HB.out.size))
 clear hU hw24 hX31
 go_cut [36] (fun s36 wx=>s36=.int .i64 2/\Below w24.heap.size w24 wx)
 case first =>
  refine bA (fun W=>Below w24.heap.size w24 W) kr ?_
  change aW _ _ _ _ _ _ #[false,false,false,false,false,false,false,false,false,false,false] _ (World.drew w24)
  have hS:Below w24.heap.size w24 (World.drew w24):=(Below.refl _ _).drew
  generalize World.drew w24=x0 at *
  refine aZ 0 112 (.agg #[.slice oa on oc,.int .i64 1,.int .i64 0]) rfl (fun W h=>fg (.tmp 31) kr X31 kr (HX31.out.below h HX31.out.lt)) hS ?_
  try simp only[Act.put,zP]
  refine fJ 1 7 kr rfl rfl kr kr ?_ ?_
  ·skip
   obtain⟨x1,hx1⟩:=zg (x0.alloc (.cells (af (List.replicate 100 0)).toArray 5))
   obtain⟨XM,hXM⟩:=zg x0.heap.size
   refine aO (w':=x1) (.slice (some ⟨XM,0,none⟩) 100 100) (by rw[hx1,hXM];exact o7 kr) ?_
   have hV:Below x0.heap.size x0 x1:=by rw[hx1];exact(Below.refl _ _).alloc (Nat.le_refl _) _
   have hbm:Sl 1 ai x1 (some ⟨XM,0,none⟩) 100 (List.replicate 100 0):=by rw[hx1,hXM];exact jO _ 100 (by simp) (ak _ rfl)
   have hS:=hS.trans (hV.mono hS.size)
   refine⟨hS,?_⟩
   try simp only[Act.put,zP]
   clear hx1 hXM hV
   refine fJ 2 7 kr rfl rfl kr kr ?_ ?_
   ·skip
    refine nM 114 (fun u w'=>(∃qa qn qc va vn vc,u=.tuple #[.agg #[.slice qa qn qc,.int .i64 am.zero.many,.int .i64 am.zero.synced],.slice va vn vc,.int .i64 2])/\Below x1.heap.size x1 w') rfl (fun K' Q' hK' => ?hcall) ?_
    case hcall =>
     unfold Oper.wp
     rw[show (execOp (Act.eval _) _).run Tryz.prog x1=.ok (.enter 14 #[.agg #[.slice oa on oc,.int .i64 1,.int .i64 0],.slice none 0 0,.int .i64 0,.slice (some ⟨XM,0,none⟩) 100 100]) x1 from by kernel_rfl]
     refine(ir (Nz:=w.heap.size) (j:=⟨[],1,0⟩) (Nat.le_trans HB.out.size hS.size) (HI.out.below (HB.out.trans (hS.mono HB.out.size))) (HO.out.below hS) om (Nat.le_refl _) (Sl.nil _ _ _ _) iY ⟨om,om⟩ om hbm HS.out.vw).mono ?_
     rintro e w' ⟨⟨qa,qn,qc,va,vn,vc,rfl,_,_,_⟩,hBe⟩
     exact hK' _ _ ⟨⟨qa,qn,qc,va,vn,vc,rfl⟩,hBe⟩
    rintro _ x2 ⟨⟨qa,qn,qc,va,vn,vc,rfl⟩,hU⟩
    have hS:=hS.trans (hU.mono hS.size)
    refine⟨hS,?_⟩
    try simp only[Act.put,zP]
    refine ay 3 111 (.tuple #[.agg #[.slice qa qn qc,.int .i64 am.zero.many,.int .i64 am.zero.synced],.slice va vn vc,.int .i64 2]) rfl hS ?_
    try simp only[Act.put,zP]
    refine ay 4 115 (.agg #[.slice qa qn qc,.int .i64 am.zero.many,.int .i64 am.zero.synced]) rfl hS ?_
    try simp only[Act.put,zP]
    refine ay 5 116 (.slice va vn vc) rfl hS ?_
    try simp only[Act.put,zP]
    refine ay 6 117 (.int .i64 2) rfl hS ?_
    try simp only[Act.put,zP]
    refine aU 7 kr rfl kr ?_
    obtain⟨x3,hx3⟩:=zg (x2.alloc (.cells #[.slice none 0 0,.int .i64 0,.int .i64 0] 24))
    obtain⟨XB,hXB⟩:=zg x2.heap.size
    refine aO (w':=x3) (.pointer (some ⟨XB,0,none⟩)) (by rw[hx3,hXB];kernel_rfl) ?_
    have hV:Below x2.heap.size x2 x3:=by rw[hx3];exact(Below.refl _ _).alloc (Nat.le_refl _) _
    have h34:ac x3 XB 24 [.slice none 0 0,.int .i64 0,.int .i64 0]:=by rw[hx3,hXB];exact ak _ rfl
    have hlo:w24.heap.size<=XB:=by rw[hXB];exact hS.size
    have hS:=hS.trans (hV.mono hS.size)
    refine⟨hS,?_⟩
    try simp only[Act.put,zP]
    clear hx3 hXB hV
    obtain⟨_,f0,f1,f2,⟨u0,u1,u2⟩,y0,y1,y2⟩:=aJ (Below.refl _ x3) h34
    obtain⟨x9,hx9⟩:=zg (((x3.setCell ⟨XB,0,none⟩ (.slice qa qn qc)).setCell ⟨XB,1,none⟩ (.int .i64 am.zero.many)).setCell ⟨XB,2,none⟩ (.int .i64 am.zero.synced))
    have hS9:Below w24.heap.size w24 x9:=by rw[hx9];exact aY hS hlo _ _ _
    refine aU 8 kr rfl kr ?_
    unfold Oper.wp
    go_simp
    rw[<-hx9]
    refine⟨hS9,?_⟩
    have hS:=hS9
    try simp only[Act.put,zP]
    clear hx9 f0 f1 f2 u0 u1 u2 y0 y1 y2
    refine ay 9 35 (.slice va vn vc) rfl hS ?_
    try simp only[Act.put,zP]
    refine ay 10 36 (.int .i64 2) rfl hS ?_
    try simp only[Act.put,zP]
    refine bp kr ?_
    go_wp2_with fail
    go_meet
    exact⟨rfl,hS9⟩
   ·skip
    obtain⟨x2,hx2⟩:=zg (x1.alloc (.cells #[.slice none 0 0,.int .i64 0,.int .i64 0] 24))
    obtain⟨XB,hXB⟩:=zg x1.heap.size
    refine aO (w':=x2) (.pointer (some ⟨XB,0,none⟩)) (by rw[hx2,hXB];kernel_rfl) ?_
    have hV:Below x1.heap.size x1 x2:=by rw[hx2];exact(Below.refl _ _).alloc (Nat.le_refl _) _
    have h34:ac x2 XB 24 [.slice none 0 0,.int .i64 0,.int .i64 0]:=by rw[hx2,hXB];exact ak _ rfl
    have hlo:w24.heap.size<=XB:=by rw[hXB];exact hS.size
    have hS:=hS.trans (hV.mono hS.size)
    refine⟨hS,?_⟩
    try simp only[Act.put,zP]
    have hbm:=hbm.below ai.keeps hV
    clear hx2 hXB hV
    refine aU 2 kr rfl kr ?_
    refine nM 114 (fun u w'=>(∃qa qn qc va vn vc,u=.tuple #[.agg #[.slice qa qn qc,.int .i64 am.zero.many,.int .i64 am.zero.synced],.slice va vn vc,.int .i64 2])/\Below x2.heap.size x2 w') rfl (fun K' Q' hK' => ?hcall) ?_
    case hcall =>
     unfold Oper.wp
     rw[show (execOp (Act.eval _) _).run Tryz.prog x2=.ok (.enter 14 #[.agg #[.slice oa on oc,.int .i64 1,.int .i64 0],.slice none 0 0,.int .i64 0,.slice (some ⟨XM,0,none⟩) 100 100]) x2 from by kernel_rfl]
     refine(ir (Nz:=w.heap.size) (j:=⟨[],1,0⟩) (Nat.le_trans HB.out.size hS.size) (HI.out.below (HB.out.trans (hS.mono HB.out.size))) (HO.out.below hS) om (Nat.le_refl _) (Sl.nil _ _ _ _) iY ⟨om,om⟩ om hbm HS.out.vw).mono ?_
     rintro e w' ⟨⟨qa,qn,qc,va,vn,vc,rfl,_,_,_⟩,hBe⟩
     exact hK' _ _ ⟨⟨qa,qn,qc,va,vn,vc,rfl⟩,hBe⟩
    rintro _ x3 ⟨⟨qa,qn,qc,va,vn,vc,rfl⟩,hU⟩
    have hS:=hS.trans (hU.mono hS.size)
    refine⟨hS,?_⟩
    try simp only[Act.put,zP]
    have h34:=h34.below hU h34.lt
    refine ay 3 111 (.tuple #[.agg #[.slice qa qn qc,.int .i64 am.zero.many,.int .i64 am.zero.synced],.slice va vn vc,.int .i64 2]) rfl hS ?_
    try simp only[Act.put,zP]
    refine ay 4 115 (.agg #[.slice qa qn qc,.int .i64 am.zero.many,.int .i64 am.zero.synced]) rfl hS ?_
    try simp only[Act.put,zP]
    refine ay 5 116 (.slice va vn vc) rfl hS ?_
    try simp only[Act.put,zP]
    refine ay 6 117 (.int .i64 2) rfl hS ?_
    try simp only[Act.put,zP]
    obtain⟨_,f0,f1,f2,⟨u0,u1,u2⟩,y0,y1,y2⟩:=aJ (Below.refl _ x3) h34
    obtain⟨x9,hx9⟩:=zg (((x3.setCell ⟨XB,0,none⟩ (.slice qa qn qc)).setCell ⟨XB,1,none⟩ (.int .i64 am.zero.many)).setCell ⟨XB,2,none⟩ (.int .i64 am.zero.synced))
    have hS9:Below w24.heap.size w24 x9:=by rw[hx9];exact aY hS hlo _ _ _
    refine aU 8 kr rfl kr ?_
    unfold Oper.wp
    go_simp
    rw[<-hx9]
    refine⟨hS9,?_⟩
    have hS:=hS9
    try simp only[Act.put,zP]
    clear hx9 f0 f1 f2 u0 u1 u2 y0 y1 y2
    refine ay 9 35 (.slice va vn vc) rfl hS ?_
    try simp only[Act.put,zP]
    refine ay 10 36 (.int .i64 2) rfl hS ?_
    try simp only[Act.put,zP]
    refine bp kr ?_
    go_wp2_with fail
    go_meet
    exact⟨rfl,hS9⟩
  ·skip
   obtain⟨x1,hx1⟩:=zg (x0.alloc (.cells #[.slice none 0 0,.int .i64 0,.int .i64 0] 24))
   obtain⟨XB,hXB⟩:=zg x0.heap.size
   refine aO (w':=x1) (.pointer (some ⟨XB,0,none⟩)) (by rw[hx1,hXB];kernel_rfl) ?_
   have hV:Below x0.heap.size x0 x1:=by rw[hx1];exact(Below.refl _ _).alloc (Nat.le_refl _) _
   have h34:ac x1 XB 24 [.slice none 0 0,.int .i64 0,.int .i64 0]:=by rw[hx1,hXB];exact ak _ rfl
   have hlo:w24.heap.size<=XB:=by rw[hXB];exact hS.size
   have hS:=hS.trans (hV.mono hS.size)
   refine⟨hS,?_⟩
   try simp only[Act.put,zP]
   clear hx1 hXB hV
   refine aU 1 kr rfl kr ?_
   obtain⟨x2,hx2⟩:=zg (x1.alloc (.cells (af (List.replicate 100 0)).toArray 5))
   obtain⟨XM,hXM⟩:=zg x1.heap.size
   refine aO (w':=x2) (.slice (some ⟨XM,0,none⟩) 100 100) (by rw[hx2,hXM];exact o7 kr) ?_
   have hV:Below x1.heap.size x1 x2:=by rw[hx2];exact(Below.refl _ _).alloc (Nat.le_refl _) _
   have hbm:Sl 1 ai x2 (some ⟨XM,0,none⟩) 100 (List.replicate 100 0):=by rw[hx2,hXM];exact jO _ 100 (by simp) (ak _ rfl)
   have hS:=hS.trans (hV.mono hS.size)
   refine⟨hS,?_⟩
   try simp only[Act.put,zP]
   have h34:=h34.below hV h34.lt
   clear hx2 hXM hV
   refine aU 2 kr rfl kr ?_
   refine nM 114 (fun u w'=>(∃qa qn qc va vn vc,u=.tuple #[.agg #[.slice qa qn qc,.int .i64 am.zero.many,.int .i64 am.zero.synced],.slice va vn vc,.int .i64 2])/\Below x2.heap.size x2 w') rfl (fun K' Q' hK' => ?hcall) ?_
   case hcall =>
    unfold Oper.wp
    rw[show (execOp (Act.eval _) _).run Tryz.prog x2=.ok (.enter 14 #[.agg #[.slice oa on oc,.int .i64 1,.int .i64 0],.slice none 0 0,.int .i64 0,.slice (some ⟨XM,0,none⟩) 100 100]) x2 from by kernel_rfl]
    refine(ir (Nz:=w.heap.size) (j:=⟨[],1,0⟩) (Nat.le_trans HB.out.size hS.size) (HI.out.below (HB.out.trans (hS.mono HB.out.size))) (HO.out.below hS) om (Nat.le_refl _) (Sl.nil _ _ _ _) iY ⟨om,om⟩ om hbm HS.out.vw).mono ?_
    rintro e w' ⟨⟨qa,qn,qc,va,vn,vc,rfl,_,_,_⟩,hBe⟩
    exact hK' _ _ ⟨⟨qa,qn,qc,va,vn,vc,rfl⟩,hBe⟩
   rintro _ x3 ⟨⟨qa,qn,qc,va,vn,vc,rfl⟩,hU⟩
   have hS:=hS.trans (hU.mono hS.size)
   refine⟨hS,?_⟩
   try simp only[Act.put,zP]
   have h34:=h34.below hU h34.lt
   refine ay 3 111 (.tuple #[.agg #[.slice qa qn qc,.int .i64 am.zero.many,.int .i64 am.zero.synced],.slice va vn vc,.int .i64 2]) rfl hS ?_
   try simp only[Act.put,zP]
   refine ay 4 115 (.agg #[.slice qa qn qc,.int .i64 am.zero.many,.int .i64 am.zero.synced]) rfl hS ?_
   try simp only[Act.put,zP]
   refine ay 5 116 (.slice va vn vc) rfl hS ?_
   try simp only[Act.put,zP]
   refine ay 6 117 (.int .i64 2) rfl hS ?_
   try simp only[Act.put,zP]
   obtain⟨_,f0,f1,f2,⟨u0,u1,u2⟩,y0,y1,y2⟩:=aJ (Below.refl _ x3) h34
   obtain⟨x9,hx9⟩:=zg (((x3.setCell ⟨XB,0,none⟩ (.slice qa qn qc)).setCell ⟨XB,1,none⟩ (.int .i64 am.zero.many)).setCell ⟨XB,2,none⟩ (.int .i64 am.zero.synced))
   have hS9:Below w24.heap.size w24 x9:=by rw[hx9];exact aY hS hlo _ _ _
   refine aU 8 kr rfl kr ?_
   unfold Oper.wp
   go_simp
   rw[<-hx9]
   refine⟨hS9,?_⟩
   have hS:=hS9
   try simp only[Act.put,zP]
   clear hx9 f0 f1 f2 u0 u1 u2 y0 y1 y2
   refine ay 9 35 (.slice va vn vc) rfl hS ?_
   try simp only[Act.put,zP]
   refine ay 10 36 (.int .i64 2) rfl hS ?_
   try simp only[Act.put,zP]
   refine bp kr ?_
   go_wp2_with fail
   go_meet
   exact⟨rfl,hS9⟩
 case rest =>
 obtain⟨rfl,hU⟩:=hcut
 obtain⟨v9,hv9⟩:=zg wc
 rw[<-hv9]at hU ⊢
 clear hv9
 clear HO HX31
 have HJ:=aa (HJ.out.below hU)
 have HL:=aa (HL.out.below aq.keeps hU)
 have HX3:=aa (HX3.out.below hU HX3.out.lt)
 have HM:=aa (HM.out.below aq.keeps hU)
 have HX15:=aa (HX15.out.below hU HX15.out.lt)
 have HG:=aa (HG.out.below aq.keeps hU)
 have HB:=aa (HB.out.trans (hU.mono HB.out.size))
 clear hU
 obtain⟨lx,lb,loff,lda,ldn,ldc,hlx,rfl,hlp,hldc,hls,hlr⟩:=ek HM.out (k:=0) om
 simp only[List.getElem?_cons_zero,Option.some.injEq]at hlx
 subst hlx
 have HLR:=aa hlr
 have HLP:=aa hlp
 clear hlr hls hldc hlp
 go_upto_region 15 with (fail)
 refine bA (fun W=>Below v9.heap.size v9 W) kr ?_
 change aW _ _ _ _ _ _ #[false,false,false,false,false,false,false,false,false,false,false,false,false,false,false,false,false,false,false,false,false,false,false,false,false,false,false,false,false,false,false,false,false,false,false,false,false,false,false,false,false,false,false] _ (World.drew v9)
 have hS:Below v9.heap.size v9 (World.drew v9):=(Below.refl _ _).drew
 generalize World.drew v9=x0 at *
 obtain⟨_,j0,j1,j2,_,_,_⟩:=aJ (Below.refl _ _) HX3.out
 obtain⟨_,q0,q1,q2,_,_,_⟩:=aJ (Below.refl _ _) HX15.out
 refine ay 0 168 (.bool true) rfl hS ?_
 skip
 simp only[Act.put,zp]
 refine ay 1 169 (.bool true) rfl hS ?_
 try simp only[Act.put,zP]
 refine ay 2 170 (.pointer (some ⟨X3,0,none⟩)) rfl hS ?_
 try simp only[Act.put,zP]
 refine aZ 3 171 (.slice ja 0 jc) rfl (fun W h=>th (.tmp 170) kr ⟨X3,0,none⟩ kr (ag h j0)) hS ?_
 try simp only[Act.put,zP]
 refine ay 4 172 (.int .i64 0) rfl hS ?_
 try simp only[Act.put,zP]
 refine ay 5 173 (.bool true) rfl hS ?_
 try simp only[Act.put,zP]
 refine ay 6 174 (.bool true) rfl hS ?_
 try simp only[Act.put,zP]
 refine ay 7 175 (.bool true) rfl hS ?_
 try simp only[Act.put,zP]
 refine ay 8 176 (.slice la 0 lc) rfl hS ?_
 try simp only[Act.put,zP]
 refine ay 9 177 (.int .i64 0) rfl hS ?_
 try simp only[Act.put,zP]
 refine ay 10 178 (.bool true) rfl hS ?_
 try simp only[Act.put,zP]
 refine ay 11 179 (.bool true) rfl hS ?_
 try simp only[Act.put,zP]
 refine ay 12 180 (.bool true) rfl hS ?_
 try simp only[Act.put,zP]
 refine ay 13 181 (.slice (some ⟨lb,loff,none⟩) 1 mc) rfl hS ?_
 try simp only[Act.put,zP]
 refine ay 14 182 (.int .i64 1) rfl hS ?_
 try simp only[Act.put,zP]
 refine ay 15 183 (.bool true) rfl hS ?_
 try simp only[Act.put,zP]
 refine ay 16 184 (.bool true) rfl hS ?_
 try simp only[Act.put,zP]
 refine ay 17 185 (.bool true) rfl hS ?_
 try simp only[Act.put,zP]
 refine ay 18 186 (.slice (some ⟨lb,loff,none⟩) 1 mc) rfl hS ?_
 try simp only[Act.put,zP]
 refine aZ 19 187 (.pointer (some ⟨lb,loff+0*35,none⟩)) rfl (fun W h=>jQ (.tmp 186) kr lb loff 1 mc kr om) hS ?_
 try simp only[Act.put,zP]
 refine ay 20 188 (.pointer (some ⟨lb,loff+0*35,none⟩)) rfl hS ?_
 try simp only[Act.put,zP]
 refine aZ 21 189 (.int .i64 3) rfl (fun W h=>na (.tmp 188) kr ⟨lb,loff+0*35,none⟩ kr (vC (bS h HLR.out))) hS ?_
 try simp only[Act.put,zP]
 refine ay 22 190 (.bool true) rfl hS ?_
 try simp only[Act.put,zP]
 refine ay 23 191 (.bool true) rfl hS ?_
 try simp only[Act.put,zP]
 refine ay 24 192 (.bool true) rfl hS ?_
 try simp only[Act.put,zP]
 refine ay 25 193 (.slice (some ⟨lb,loff,none⟩) 1 mc) rfl hS ?_
 try simp only[Act.put,zP]
 refine aZ 26 194 (.pointer (some ⟨lb,loff+0*35,none⟩)) rfl (fun W h=>jQ (.tmp 193) kr lb loff 1 mc kr om) hS ?_
 try simp only[Act.put,zP]
 refine ay 27 195 (.pointer (some ⟨lb,loff+0*35+2,none⟩)) rfl hS ?_
 try simp only[Act.put,zP]
 refine aZ 28 196 (br (bR [])) rfl (fun W h=>xQ (.tmp 195) kr lb (loff+0*35+2) kr (bR []) (dI []) (vo (bS h HLR.out))) hS ?_
 try simp only[Act.put,zP]
 refine dk 29 197 (br (bR [])) 19 #[.slice none 0 0] kr rfl kr kr kr (nr none 0 0 [] x0 om (HI.out.below (HB.out.trans (hS.mono HB.out.size))) (Sl.nil _ _ _ _) iY) (fun x1 hU=>⟨hS.trans (hU.mono hS.size),?_⟩)
 have hS:=hS.trans (hU.mono hS.size)
 clear hU
 try simp only[Act.put,zP]
 refine aZ 30 198 (.bool true) rfl (fun W h=>qA (.tmp 196) (.tmp 197) kr (bR []) kr kr (dI [])) hS ?_
 try simp only[Act.put,zP]
 refine ay 31 199 (.bool true) rfl hS ?_
 try simp only[Act.put,zP]
 refine ay 32 200 (.bool true) rfl hS ?_
 try simp only[Act.put,zP]
 refine ay 33 201 (.pointer (some ⟨X15,2,none⟩)) rfl hS ?_
 try simp only[Act.put,zP]
 refine aZ 34 202 (.int .i64 1) rfl (fun W h=>na (.tmp 201) kr ⟨X15,2,none⟩ kr (by rw[<-K1.out];exact ag h q2)) hS ?_
 try simp only[Act.put,zP]
 refine ay 35 203 (.bool true) rfl hS ?_
 try simp only[Act.put,zP]
 refine ay 36 204 (.bool true) rfl hS ?_
 try simp only[Act.put,zP]
 refine ay 37 205 (.bool true) rfl hS ?_
 try simp only[Act.put,zP]
 refine ay 38 206 (.slice ga 1 gc) rfl hS ?_
 try simp only[Act.put,zP]
 refine ay 39 207 (.slice (some ⟨lb,loff,none⟩) 1 mc) rfl hS ?_
 try simp only[Act.put,zP]
 refine dk 40 208 (.bool true) 12 #[.slice ga 1 gc,.slice (some ⟨lb,loff,none⟩) 1 mc] kr rfl kr kr kr (by have h9:=nA ga 1 gc [qi] (some ⟨lb,loff,none⟩) 1 mc [qi] x1 om om (HG.out.below aq.keeps hS) (HM.out.below aq.keeps hS);rw[g6]at h9;exact h9) (fun x2 hU=>⟨hS.trans (hU.mono hS.size),?_⟩)
 have hS:=hS.trans (hU.mono hS.size)
 clear hU
 try simp only[Act.put,zP]
 refine ay 41 209 (.bool true) rfl hS ?_
 try simp only[Act.put,zP]
 refine ay 42 0 (.bool true) rfl hS ?_
 try simp only[Act.put,zP]
 refine bp kr ?_
 go_wp2
 refine bodyPost_ret (by simp[results,Tryz.results5,go_sem];try rfl) rfl ?_
 exact⟨rfl,HB.out.trans (hS.mono HB.out.size)⟩
theorem Bn {rs:List (List UInt8)}{r:List UInt8}(h:r ∈ rs):r.length<=sumL rs:=by
 unfold sumL
 induction rs with
 | nil=>cases h
 | cons x rs ih =>
  simp only[List.map_cons,List.sum_cons]
  rcases List.mem_cons.1 h with rfl|h
  ·omega
  ·have:=ih h;omega
theorem xS {Nz:Nat}{w:World}{a:Option Addr}{n c:Nat}{j:am}(h:Sl 1 (aN Nz) w a n j.recs)(hk:n<=c)(hf:bO Nz w a n)(hb:kg j.recs j.many=true):cg Nz w a n c j:=by
 simp only[kg,Bool.and_eq_true,decide_eq_true_eq]at hb
 exact⟨h,by have:=h.len;omega,hk,hf,fun b hb'=>by have:=Bn hb';omega⟩
theorem Dt : ∀(l:List (List UInt8)),(∀b ∈ l,b.length=128)->sumL l=128*l.length
 | [],_=>rfl
 | b::l,h=>by
  have h1:=Dt l (fun c hc=>h c (List.mem_cons_of_mem _ hc))
  have h2:=h b List.mem_cons_self
  unfold sumL at h1 ⊢
  simp only[List.map_cons,List.sum_cons,List.length_cons,h1,h2]
  omega
theorem Ee {d:aj}{n1:Nat}(h:n1+sumL d.secs<=9000)(hl:d.secs.length=n1)(hok:d.okB=true):n1<=100:=by
 have:=Dt d.secs (iT hok)
 omega
theorem l8 {P:Program}{ops:Array Oper}{rest:List Oper}{o:Oper}{a:Act}{w:World}{Q:Exit->Act->World->Prop}(d:Nat)(R:Value->World->Prop)(hw:Region.wanted o (yielded ops a.tmps)=true)(_hd:o.dst=some d)
  (hrun:∀(K:Act->World->Prop) (Q:Exit->Act->World->Prop),(∀v w',R v w'->K (a.put (some d) v) w')->o.wp P a w K Q) (h:∀v w',R v w'->wpList P ops Q rest (a.put (some d) v) w'):wpList P ops Q (o::rest) a w:=by
 unfold wpList
 rw[if_pos hw]
 exact .inl (hrun _ _ h)
theorem Ds (d:aj):(eS d).2.1.length<=1024:=by
 by_cases h:(eS d).2.2=0
 ·obtain⟨l,_,_,_,ho,hc,_⟩:=Ec h
  rw[ho]
  exact(eZ.1 hc).1
 ·rw[(Ed h).2]
  exact Nat.zero_le _
theorem D7 {o:Oper}{a:Act}{W:World}(x y:Operand)(ho:o.op=.binOp .eql 31 x y 31)(p:Int)(hx:a.eval x=.int .i64 p)(hy:a.eval y=.int .i64 p):(execOp a.eval o).run Tryz.prog W=.ok (.value (.bool true)) W:=by
 unfold execOp
 simp only[ho,hx,hy]
 go_simp
theorem De (a:Option Addr)(n c:Nat)(j:am)(a1:Option Addr)(n1 c1:Nat)(a2:Option Addr)(n2 c2:Nat)(d:aj)(w:World)(hi:dV w)(h:Sl 1 (aN w.heap.size) w a n j.recs)(hk:n<=c)(hf:bO w.heap.size w a n)(hbm:jK j.recs<=1048576)
  (hD:bF w.heap.size w a1 n1 c1 a2 n2 c2 d) (hds:∀b ∈ d.secs,b.length<=2000000) (hdp:∀x ∈ d.pend,x.2.length<=2000000) :
  Calls Tryz.prog 3 #[.agg #[.slice a n c,.int .i64 j.many,.int .i64 j.synced],.agg #[.slice a1 n1 c1,.slice a2 n2 c2,.int .i64 d.left,.bool d.stopped]] w fun e w'=>e=.returned (.bool true)/\Below w.heap.size w w':=by
 have HI:=aa hi
 have HD:=aa hD
 have HDS:=aa hds
 have HDP:=aa hdp
 have HDL:Hid (d.secs.length=n1):=hD.secs.len
 have HBN:Hid (n<=2000000/\∀r ∈ j.recs,r.length<=2000000):=⟨by have:=(r8 j.recs).1;have:=h.len;omega,fun r hr=>by have:=(r8 j.recs).2 r hr;omega⟩
 have HJF:Hid (kg j.recs j.many=true->cg w.heap.size w a n c j):=fun q=>xS h hk hf q
 have H:=aa h
 have HB:Hid (Below w.heap.size w w):=Below.refl _ _
 clear hi h hk hf hbm hD hds hdp
 go_enter Tryz.func3,Tryz.ntmps3
 go_upto_region 1 with (fail)
 obtain⟨w1,hw1⟩:=zg (((w.alloc (.cells #[.slice a n c,.int .i64 j.many,.int .i64 j.synced] 24)).alloc (.cells #[.slice a1 n1 c1,.slice a2 n2 c2,.int .i64 d.left,.bool d.stopped] 27)))
 obtain⟨X2,hX2⟩:=zg w.heap.size
 obtain⟨X3,hX3⟩:=zg (w.heap.size+1)
 rw[<-hX3]
 rw[<-hX2]
 rw[<-hw1]
 have hU:Below w.heap.size w w1:=by rw[hw1];exact((Below.refl _ _).alloc (Nat.le_refl _) _).alloc (by simp) _
 have HX2:Hid (ac w1 X2 24 [.slice a n c,.int .i64 j.many,.int .i64 j.synced]):=by rw[hw1,hX2];exact aB _ (ak _ rfl)
 have HX3:Hid (ac w1 X3 27 [.slice a1 n1 c1,.slice a2 n2 c2,.int .i64 d.left,.bool d.stopped]):=by rw[hw1,hX3];exact ak _ (by simp)
 have hnxX2:w.heap.size<=X2:=by go_light;have:=HB.out.size;omega
 have HNXX2:=aa hnxX2
 clear hnxX2
 have hnxX3:w.heap.size<=X3:=by go_light;have:=HB.out.size;omega
 have HNXX3:=aa hnxX3
 clear hnxX3
 have hne_X2_X3:X2≠X3:=by go_light;omega
 have HNE_X2_X3:=aa hne_X2_X3
 clear hne_X2_X3
 have HD:=aa (HD.out.below hU)
 have HB:=aa (HB.out.trans (hU.mono HB.out.size))
 clear hU hw1 hX2 hX3
 go_wp2_with fail
 refine(vD _ (HI.out.below HB.out)).mono ?_
 rintro e w2 ⟨rfl,hU⟩
 have HD:=aa (HD.out.below hU)
 have HX2:=aa (HX2.out.below hU HX2.out.lt)
 have HX3:=aa (HX3.out.below hU HX3.out.lt)
 have HB:=aa (HB.out.trans (hU.mono HB.out.size))
 clear hU
 obtain⟨_,c00,c01,c02,_,_,_⟩:=aJ (Below.refl _ _) HX2.out
 obtain⟨_,c10,c11,c12,c13,_,_,_⟩:=aF (Below.refl _ _) HX3.out
 go_wp2_with fail
 clear c00 c01 c02 c10 c11 c12 c13
 refine(zZ (Nz:=w.heap.size) a n c j.recs j.many j.synced a1 n1 c1 a2 n2 c2 d none 0 0 [] w2 HBN.out.1 (H.out.below aN.keeps HB.out) HBN.out.2 HD.out HDS.out HDP.out (Sl.nil _ _ _ _)).mono ?_
 rintro e w3 ⟨⟨q,rfl,hq⟩,hU⟩
 have HD:=aa (HD.out.below hU)
 have HX2:=aa (HX2.out.below hU HX2.out.lt)
 have HX3:=aa (HX3.out.below hU HX3.out.lt)
 have HB:=aa (HB.out.trans (hU.mono HB.out.size))
 clear hU
 have HQ:=aa hq
 clear hq
 cases q
 ·go_wp2
  go_ret
  exact⟨rfl,HB.out⟩
 have hq:=HQ.out rfl
 have hjr:=HJF.out hq.1
 have HJN:Hid (n<=1024):=by
  have h1:=hq.1
  simp only[kg,Bool.and_eq_true,decide_eq_true_eq]at h1
  have:=H.out.len
  show _<=_
  omega
 have HN:Hid (d.okB=true->n1<=100):=fun hok=>Ee hq.2.1 HDL.out hok
 have HJ:=aa (hjr.below HB.out)
 clear hq hjr HQ HJF HBN H
 obtain⟨r,hr⟩:=zg (eS d)
 obtain⟨s,hs⟩:=zg (iE j d)
 have HRB:Hid (r.2.1.length<=1024):=by rw[Hid,hr];exact Ds d
 have HR:=aa hr
 have HSS:=aa hs
 clear hr hs
 obtain⟨_,c00,c01,c02,c03,_,_,_⟩:=aF (Below.refl _ _) HX3.out
 go_upto_region 5 with (fail)
 go_wp2_with fail
 clear c00 c01 c02 c03
 refine(Bj (Nz:=w.heap.size) a1 n1 c1 a2 n2 c2 d w3 HN.out (HI.out.below HB.out) HD.out).mono ?_
 rintro e w4 ⟨⟨ja,jn,jc,la,ln,lc,rfl,hJ,hlc,hL⟩,hU⟩
 have HD:=aa (HD.out.below hU)
 have HX2:=aa (HX2.out.below hU HX2.out.lt)
 have HX3:=aa (HX3.out.below hU HX3.out.lt)
 have HJ:=aa (HJ.out.below hU)
 have HB:=aa (HB.out.trans (hU.mono HB.out.size))
 clear hU
 rw[<-HR.out]at hJ hL ⊢
 have HJ5:=aa hJ
 have HL6:=aa hL
 clear hJ hL hlc
 go_upto_region 6 with (fail)
 obtain⟨w5,hw5⟩:=zg ((w4.alloc (.cells #[.slice ja jn jc,.int .i64 r.1.many,.int .i64 r.1.synced] 24)))
 obtain⟨X5,hX5⟩:=zg w4.heap.size
 rw[<-hX5]
 rw[<-hw5]
 have hU:Below w4.heap.size w4 w5:=by rw[hw5];exact(Below.refl _ _).alloc (Nat.le_refl _) _
 have HX5:Hid (ac w5 X5 24 [.slice ja jn jc,.int .i64 r.1.many,.int .i64 r.1.synced]):=by rw[hw5,hX5];exact ak _ rfl
 have hnxX5:w.heap.size<=X5:=by go_light;have:=HB.out.size;omega
 have HNXX5:=aa hnxX5
 clear hnxX5
 have hne_X2_X5:X2≠X5:=by go_light;have:=HX2.out.lt;omega
 have HNE_X2_X5:=aa hne_X2_X5
 clear hne_X2_X5
 have hne_X3_X5:X3≠X5:=by go_light;have:=HX3.out.lt;omega
 have HNE_X3_X5:=aa hne_X3_X5
 clear hne_X3_X5
 have HD:=aa (HD.out.below hU)
 have HX2:=aa (HX2.out.below hU HX2.out.lt)
 have HX3:=aa (HX3.out.below hU HX3.out.lt)
 have HJ:=aa (HJ.out.below hU)
 have HJ5:=aa (HJ5.out.below hU)
 have HL6:=aa (HL6.out.below aq.keeps hU)
 have HB:=aa (HB.out.trans (hU.mono HB.out.size))
 clear hU hw5 hX5
 obtain⟨_,c00,c01,c02,c03,_,_,_⟩:=aF (Below.refl _ _) HX3.out
 go_wp2_with fail
 clear c00 c01 c02 c03
 refine(DJ (Nz:=w.heap.size) a1 n1 c1 a2 n2 c2 d w5 HB.out.size HN.out HD.out).mono ?_
 rintro e w6 ⟨⟨ka,kn,kc,ma,mn,mc,rfl,hJ,hmc,hL⟩,hU⟩
 have HD:=aa (HD.out.below hU)
 have HX2:=aa (HX2.out.below hU HX2.out.lt)
 have HX3:=aa (HX3.out.below hU HX3.out.lt)
 have HJ:=aa (HJ.out.below hU)
 have HJ5:=aa (HJ5.out.below hU)
 have HL6:=aa (HL6.out.below aq.keeps hU)
 have HX5:=aa (HX5.out.below hU HX5.out.lt)
 have HB:=aa (HB.out.trans (hU.mono HB.out.size))
 clear hU
 rw[<-HR.out]at hJ hL ⊢
 have HJ8:=aa hJ
 have HL9:=aa hL
 clear hJ hL hmc HR
 go_upto_region 7 with (fail)
 obtain⟨w7,hw7⟩:=zg ((w6.alloc (.cells #[.slice ka kn kc,.int .i64 r.1.many,.int .i64 r.1.synced] 24)))
 obtain⟨X8,hX8⟩:=zg w6.heap.size
 rw[<-hX8]
 rw[<-hw7]
 have hU:Below w6.heap.size w6 w7:=by rw[hw7];exact(Below.refl _ _).alloc (Nat.le_refl _) _
 have HX8:Hid (ac w7 X8 24 [.slice ka kn kc,.int .i64 r.1.many,.int .i64 r.1.synced]):=by rw[hw7,hX8];exact ak _ rfl
 have hnxX8:w.heap.size<=X8:=by go_light;have:=HB.out.size;omega
 have HNXX8:=aa hnxX8
 clear hnxX8
 have hne_X2_X8:X2≠X8:=by go_light;have:=HX2.out.lt;omega
 have HNE_X2_X8:=aa hne_X2_X8
 clear hne_X2_X8
 have hne_X3_X8:X3≠X8:=by go_light;have:=HX3.out.lt;omega
 have HNE_X3_X8:=aa hne_X3_X8
 clear hne_X3_X8
 have hne_X5_X8:X5≠X8:=by go_light;have:=HX5.out.lt;omega
 have HNE_X5_X8:=aa hne_X5_X8
 clear hne_X5_X8
 have HD:=aa (HD.out.below hU)
 have HX2:=aa (HX2.out.below hU HX2.out.lt)
 have HX3:=aa (HX3.out.below hU HX3.out.lt)
 have HJ:=aa (HJ.out.below hU)
 have HJ5:=aa (HJ5.out.below hU)
 have HL6:=aa (HL6.out.below aq.keeps hU)
 have HX5:=aa (HX5.out.below hU HX5.out.lt)
 have HJ8:=aa (HJ8.out.below hU)
 have HL9:=aa (HL9.out.below aq.keeps hU)
 have HB:=aa (HB.out.trans (hU.mono HB.out.size))
 clear hU hw7 hX8
 obtain⟨_,c00,c01,c02,_,_,_⟩:=aJ (Below.refl _ _) HX2.out
 obtain⟨_,c10,c11,c12,c13,_,_,_⟩:=aF (Below.refl _ _) HX3.out
 go_wp2_with fail
 clear c00 c01 c02 c10 c11 c12 c13
 refine(Bh (Nz:=w.heap.size) a n c j a1 n1 c1 a2 n2 c2 d w7 HB.out.size HN.out (HI.out.below HB.out) HJ.out HD.out).mono ?_
 rintro e w8 ⟨⟨pa,pn,pc,b1,m1,f1,b2,m2,f2,rfl,hJ,hD⟩,hU⟩
 have HD:=aa (HD.out.below hU)
 have HX2:=aa (HX2.out.below hU HX2.out.lt)
 have HX3:=aa (HX3.out.below hU HX3.out.lt)
 have HJ:=aa (HJ.out.below hU)
 have HJ5:=aa (HJ5.out.below hU)
 have HL6:=aa (HL6.out.below aq.keeps hU)
 have HX5:=aa (HX5.out.below hU HX5.out.lt)
 have HJ8:=aa (HJ8.out.below hU)
 have HL9:=aa (HL9.out.below aq.keeps hU)
 have HX8:=aa (HX8.out.below hU HX8.out.lt)
 have HB:=aa (HB.out.trans (hU.mono HB.out.size))
 clear hU
 rw[<-HSS.out]at hJ hD ⊢
 have HJ11:=aa hJ
 have HD12:=aa hD
 clear hJ hD
 go_upto_region 8 with (fail)
 obtain⟨w9,hw9⟩:=zg (((w8.alloc (.cells #[.slice pa pn pc,.int .i64 s.1.many,.int .i64 s.1.synced] 24)).alloc (.cells #[.slice b1 m1 f1,.slice b2 m2 f2,.int .i64 s.2.1.left,.bool s.2.1.stopped] 27)))
 obtain⟨X11,hX11⟩:=zg w8.heap.size
 obtain⟨X12,hX12⟩:=zg (w8.heap.size+1)
 rw[<-hX12]
 rw[<-hX11]
 rw[<-hw9]
 have hU:Below w8.heap.size w8 w9:=by rw[hw9];exact((Below.refl _ _).alloc (Nat.le_refl _) _).alloc (by simp) _
 have HX11:Hid (ac w9 X11 24 [.slice pa pn pc,.int .i64 s.1.many,.int .i64 s.1.synced]):=by rw[hw9,hX11];exact aB _ (ak _ rfl)
 have HX12:Hid (ac w9 X12 27 [.slice b1 m1 f1,.slice b2 m2 f2,.int .i64 s.2.1.left,.bool s.2.1.stopped]):=by rw[hw9,hX12];exact ak _ (by simp)
 have hnxX11:w.heap.size<=X11:=by go_light;have:=HB.out.size;omega
 have HNXX11:=aa hnxX11
 clear hnxX11
 have hnxX12:w.heap.size<=X12:=by go_light;have:=HB.out.size;omega
 have HNXX12:=aa hnxX12
 clear hnxX12
 have hne_X2_X11:X2≠X11:=by go_light;have:=HX2.out.lt;omega
 have HNE_X2_X11:=aa hne_X2_X11
 clear hne_X2_X11
 have hne_X3_X11:X3≠X11:=by go_light;have:=HX3.out.lt;omega
 have HNE_X3_X11:=aa hne_X3_X11
 clear hne_X3_X11
 have hne_X5_X11:X5≠X11:=by go_light;have:=HX5.out.lt;omega
 have HNE_X5_X11:=aa hne_X5_X11
 clear hne_X5_X11
 have hne_X8_X11:X8≠X11:=by go_light;have:=HX8.out.lt;omega
 have HNE_X8_X11:=aa hne_X8_X11
 clear hne_X8_X11
 have hne_X2_X12:X2≠X12:=by go_light;have:=HX2.out.lt;omega
 have HNE_X2_X12:=aa hne_X2_X12
 clear hne_X2_X12
 have hne_X3_X12:X3≠X12:=by go_light;have:=HX3.out.lt;omega
 have HNE_X3_X12:=aa hne_X3_X12
 clear hne_X3_X12
 have hne_X5_X12:X5≠X12:=by go_light;have:=HX5.out.lt;omega
 have HNE_X5_X12:=aa hne_X5_X12
 clear hne_X5_X12
 have hne_X8_X12:X8≠X12:=by go_light;have:=HX8.out.lt;omega
 have HNE_X8_X12:=aa hne_X8_X12
 clear hne_X8_X12
 have hne_X11_X12:X11≠X12:=by go_light;omega
 have HNE_X11_X12:=aa hne_X11_X12
 clear hne_X11_X12
 have HD:=aa (HD.out.below hU)
 have HX2:=aa (HX2.out.below hU HX2.out.lt)
 have HX3:=aa (HX3.out.below hU HX3.out.lt)
 have HJ:=aa (HJ.out.below hU)
 have HJ5:=aa (HJ5.out.below hU)
 have HL6:=aa (HL6.out.below aq.keeps hU)
 have HX5:=aa (HX5.out.below hU HX5.out.lt)
 have HJ8:=aa (HJ8.out.below hU)
 have HL9:=aa (HL9.out.below aq.keeps hU)
 have HX8:=aa (HX8.out.below hU HX8.out.lt)
 have HJ11:=aa (HJ11.out.below hU)
 have HD12:=aa (HD12.out.below hU)
 have HB:=aa (HB.out.trans (hU.mono HB.out.size))
 clear hU hw9 hX11 hX12
 obtain⟨_,c00,c01,c02,_,_,_⟩:=aJ (Below.refl _ _) HX2.out
 obtain⟨_,c10,c11,c12,c13,_,_,_⟩:=aF (Below.refl _ _) HX3.out
 go_wp2_with fail
 clear c00 c01 c02 c10 c11 c12 c13
 refine(DK (Nz:=w.heap.size) a n c j a1 n1 c1 a2 n2 c2 d w9 HB.out.size HN.out HJN.out HJ.out HD.out).mono ?_
 clear HJ HD HX2 HX3
 rintro e w10 ⟨⟨ta,tn,tc,y1,i1,z1,y2,i2,z2,rfl,hJ,hD⟩,hU⟩
 have HJ5:=aa (HJ5.out.below hU)
 have HL6:=aa (HL6.out.below aq.keeps hU)
 have HX5:=aa (HX5.out.below hU HX5.out.lt)
 have HJ8:=aa (HJ8.out.below hU)
 have HL9:=aa (HL9.out.below aq.keeps hU)
 have HX8:=aa (HX8.out.below hU HX8.out.lt)
 have HJ11:=aa (HJ11.out.below hU)
 have HD12:=aa (HD12.out.below hU)
 have HX11:=aa (HX11.out.below hU HX11.out.lt)
 have HX12:=aa (HX12.out.below hU HX12.out.lt)
 have HB:=aa (HB.out.trans (hU.mono HB.out.size))
 clear hU
 rw[<-HSS.out]at hJ hD ⊢
 have HJ14:=aa hJ
 have HD15:=aa hD
 clear hJ hD HSS
 go_upto_region 9 with (fail)
 obtain⟨w11,hw11⟩:=zg (((w10.alloc (.cells #[.slice ta tn tc,.int .i64 s.1.many,.int .i64 s.1.synced] 24)).alloc (.cells #[.slice y1 i1 z1,.slice y2 i2 z2,.int .i64 s.2.1.left,.bool s.2.1.stopped] 27)))
 obtain⟨X14,hX14⟩:=zg w10.heap.size
 obtain⟨X15,hX15⟩:=zg (w10.heap.size+1)
 rw[<-hX15]
 rw[<-hX14]
 rw[<-hw11]
 have hU:Below w10.heap.size w10 w11:=by rw[hw11];exact((Below.refl _ _).alloc (Nat.le_refl _) _).alloc (by simp) _
 have HX14:Hid (ac w11 X14 24 [.slice ta tn tc,.int .i64 s.1.many,.int .i64 s.1.synced]):=by rw[hw11,hX14];exact aB _ (ak _ rfl)
 have HX15:Hid (ac w11 X15 27 [.slice y1 i1 z1,.slice y2 i2 z2,.int .i64 s.2.1.left,.bool s.2.1.stopped]):=by rw[hw11,hX15];exact ak _ (by simp)
 have hnxX14:w.heap.size<=X14:=by go_light;have:=HB.out.size;omega
 have HNXX14:=aa hnxX14
 clear hnxX14
 have hnxX15:w.heap.size<=X15:=by go_light;have:=HB.out.size;omega
 have HNXX15:=aa hnxX15
 clear hnxX15
 have hne_X5_X14:X5≠X14:=by go_light;have:=HX5.out.lt;omega
 have HNE_X5_X14:=aa hne_X5_X14
 clear hne_X5_X14
 have hne_X8_X14:X8≠X14:=by go_light;have:=HX8.out.lt;omega
 have HNE_X8_X14:=aa hne_X8_X14
 clear hne_X8_X14
 have hne_X11_X14:X11≠X14:=by go_light;have:=HX11.out.lt;omega
 have HNE_X11_X14:=aa hne_X11_X14
 clear hne_X11_X14
 have hne_X12_X14:X12≠X14:=by go_light;have:=HX12.out.lt;omega
 have HNE_X12_X14:=aa hne_X12_X14
 clear hne_X12_X14
 have hne_X5_X15:X5≠X15:=by go_light;have:=HX5.out.lt;omega
 have HNE_X5_X15:=aa hne_X5_X15
 clear hne_X5_X15
 have hne_X8_X15:X8≠X15:=by go_light;have:=HX8.out.lt;omega
 have HNE_X8_X15:=aa hne_X8_X15
 clear hne_X8_X15
 have hne_X11_X15:X11≠X15:=by go_light;have:=HX11.out.lt;omega
 have HNE_X11_X15:=aa hne_X11_X15
 clear hne_X11_X15
 have hne_X12_X15:X12≠X15:=by go_light;have:=HX12.out.lt;omega
 have HNE_X12_X15:=aa hne_X12_X15
 clear hne_X12_X15
 have hne_X14_X15:X14≠X15:=by go_light;omega
 have HNE_X14_X15:=aa hne_X14_X15
 clear hne_X14_X15
 have HJ5:=aa (HJ5.out.below hU)
 have HL6:=aa (HL6.out.below aq.keeps hU)
 have HX5:=aa (HX5.out.below hU HX5.out.lt)
 have HJ8:=aa (HJ8.out.below hU)
 have HL9:=aa (HL9.out.below aq.keeps hU)
 have HX8:=aa (HX8.out.below hU HX8.out.lt)
 have HJ11:=aa (HJ11.out.below hU)
 have HD12:=aa (HD12.out.below hU)
 have HX11:=aa (HX11.out.below hU HX11.out.lt)
 have HX12:=aa (HX12.out.below hU HX12.out.lt)
 have HJ14:=aa (HJ14.out.below hU)
 have HD15:=aa (HD15.out.below hU)
 have HB:=aa (HB.out.trans (hU.mono HB.out.size))
 clear hU hw11 hX14 hX15
 have HLB:Hid (r.2.1.length=ln/\r.2.1.length=mn):=⟨HL6.out.len,HL9.out.len⟩
 have HRL:Hid (ln<=100000/\mn<=100000):=by have h1:=HLB.out;have h2:=HRB.out;show _/\_;omega
 refine wp_region_list ?_
 refine fX (.agg #[.slice ja jn jc,.int .i64 r.1.many,.int .i64 r.1.synced]) (fg (.tmp 5) kr X5 kr HX5.out) ?_
 simp only[Act.put,zp]
 refine fX (.agg #[.slice ka kn kc,.int .i64 r.1.many,.int .i64 r.1.synced]) (fg (.tmp 8) kr X8 kr HX8.out) ?_
 simp only[Act.put,zp]
 refine l8 51 (fun u w'=>u=.bool true/\Below w11.heap.size w11 w') kr rfl (fun K' Q' hK' => ?hcall) ?_
 case hcall =>
  unfold Oper.wp
  rw[show (execOp (Act.eval _) _).run Tryz.prog w11=.ok (.enter 11 #[.agg #[.slice ja jn jc,.int .i64 r.1.many,.int .i64 r.1.synced],.agg #[.slice ka kn kc,.int .i64 r.1.many,.int .i64 r.1.synced]]) w11 from by kernel_rfl]
  have hcc:Calls Tryz.prog 11 #[.agg #[.slice ja jn jc,.int .i64 r.1.many,.int .i64 r.1.synced],.agg #[.slice ka kn kc,.int .i64 r.1.many,.int .i64 r.1.synced]] w11 fun e w'=>e=.returned (.bool true)/\Below w11.heap.size w11 w':=by have h9:=xI ja jn jc r.1 ka kn kc r.1 w11 HJ5.out HJ8.out;rw[am.same_refl]at h9;exact h9
  refine hcc.mono ?_
  rintro e w' ⟨rfl,hBe⟩
  exact hK' _ _ ⟨rfl,hBe⟩
 rintro _ w12 ⟨rfl,hU⟩
 simp only[Act.put,zp]
 have HJ5:=aa (HJ5.out.below hU)
 have HL6:=aa (HL6.out.below aq.keeps hU)
 have HX5:=aa (HX5.out.below hU HX5.out.lt)
 have HJ8:=aa (HJ8.out.below hU)
 have HL9:=aa (HL9.out.below aq.keeps hU)
 have HX8:=aa (HX8.out.below hU HX8.out.lt)
 have HJ11:=aa (HJ11.out.below hU)
 have HD12:=aa (HD12.out.below hU)
 have HX11:=aa (HX11.out.below hU HX11.out.lt)
 have HX12:=aa (HX12.out.below hU HX12.out.lt)
 have HJ14:=aa (HJ14.out.below hU)
 have HD15:=aa (HD15.out.below hU)
 have HX14:=aa (HX14.out.below hU HX14.out.lt)
 have HX15:=aa (HX15.out.below hU HX15.out.lt)
 have HB:=aa (HB.out.trans (hU.mono HB.out.size))
 clear hU
 refine dd (.bool true) ?_
 simp only[Act.put,zp]
 refine dd (.slice la ln lc) ?_
 simp only[Act.put,zp]
 refine dd (.slice ma mn mc) ?_
 simp only[Act.put,zp]
 refine l8 55 (fun u w'=>u=.bool true/\Below w12.heap.size w12 w') kr rfl (fun K' Q' hK' => ?hcall) ?_
 case hcall =>
  unfold Oper.wp
  rw[show (execOp (Act.eval _) _).run Tryz.prog w12=.ok (.enter 12 #[.slice la ln lc,.slice ma mn mc]) w12 from by kernel_rfl]
  have hcc:Calls Tryz.prog 12 #[.slice la ln lc,.slice ma mn mc] w12 fun e w'=>e=.returned (.bool true)/\Below w12.heap.size w12 w':=by have h9:=nA la ln lc r.2.1 ma mn mc r.2.1 w12 HRL.out.1 HRL.out.2 HL6.out HL9.out;rw[g6]at h9;exact h9
  refine hcc.mono ?_
  rintro e w' ⟨rfl,hBe⟩
  exact hK' _ _ ⟨rfl,hBe⟩
 rintro _ w13 ⟨rfl,hU⟩
 simp only[Act.put,zp]
 have HJ5:=aa (HJ5.out.below hU)
 have HL6:=aa (HL6.out.below aq.keeps hU)
 have HX5:=aa (HX5.out.below hU HX5.out.lt)
 have HJ8:=aa (HJ8.out.below hU)
 have HL9:=aa (HL9.out.below aq.keeps hU)
 have HX8:=aa (HX8.out.below hU HX8.out.lt)
 have HJ11:=aa (HJ11.out.below hU)
 have HD12:=aa (HD12.out.below hU)
 have HX11:=aa (HX11.out.below hU HX11.out.lt)
 have HX12:=aa (HX12.out.below hU HX12.out.lt)
 have HJ14:=aa (HJ14.out.below hU)
 have HD15:=aa (HD15.out.below hU)
 have HX14:=aa (HX14.out.below hU HX14.out.lt)
 have HX15:=aa (HX15.out.below hU HX15.out.lt)
 have HB:=aa (HB.out.trans (hU.mono HB.out.size))
 clear hU
 refine dd (.bool true) ?_
 simp only[Act.put,zp]
 refine dd (.bool true) ?_
 simp only[Act.put,zp]
 refine dd (.int .i64 r.2.2) ?_
 simp only[Act.put,zp]
 refine dd (.int .i64 r.2.2) ?_
 simp only[Act.put,zp]
 refine fX (.bool true) (D7 (.tmp 58) (.tmp 59) kr r.2.2 kr kr) ?_
 simp only[Act.put,zp]
 refine dd (.bool true) ?_
 simp only[Act.put,zp]
 refine dd (.bool true) ?_
 simp only[Act.put,zp]
 refine fX (.agg #[.slice pa pn pc,.int .i64 s.1.many,.int .i64 s.1.synced]) (fg (.tmp 11) kr X11 kr HX11.out) ?_
 simp only[Act.put,zp]
 refine fX (.agg #[.slice ta tn tc,.int .i64 s.1.many,.int .i64 s.1.synced]) (fg (.tmp 14) kr X14 kr HX14.out) ?_
 simp only[Act.put,zp]
 refine l8 65 (fun u w'=>u=.bool true/\Below w13.heap.size w13 w') kr rfl (fun K' Q' hK' => ?hcall) ?_
 case hcall =>
  unfold Oper.wp
  rw[show (execOp (Act.eval _) _).run Tryz.prog w13=.ok (.enter 11 #[.agg #[.slice pa pn pc,.int .i64 s.1.many,.int .i64 s.1.synced],.agg #[.slice ta tn tc,.int .i64 s.1.many,.int .i64 s.1.synced]]) w13 from by kernel_rfl]
  have hcc:Calls Tryz.prog 11 #[.agg #[.slice pa pn pc,.int .i64 s.1.many,.int .i64 s.1.synced],.agg #[.slice ta tn tc,.int .i64 s.1.many,.int .i64 s.1.synced]] w13 fun e w'=>e=.returned (.bool true)/\Below w13.heap.size w13 w':=by have h9:=xI pa pn pc s.1 ta tn tc s.1 w13 HJ11.out HJ14.out;rw[am.same_refl]at h9;exact h9
  refine hcc.mono ?_
  rintro e w' ⟨rfl,hBe⟩
  exact hK' _ _ ⟨rfl,hBe⟩
 rintro _ w14 ⟨rfl,hU⟩
 simp only[Act.put,zp]
 have HJ5:=aa (HJ5.out.below hU)
 have HL6:=aa (HL6.out.below aq.keeps hU)
 have HX5:=aa (HX5.out.below hU HX5.out.lt)
 have HJ8:=aa (HJ8.out.below hU)
 have HL9:=aa (HL9.out.below aq.keeps hU)
 have HX8:=aa (HX8.out.below hU HX8.out.lt)
 have HJ11:=aa (HJ11.out.below hU)
 have HD12:=aa (HD12.out.below hU)
 have HX11:=aa (HX11.out.below hU HX11.out.lt)
 have HX12:=aa (HX12.out.below hU HX12.out.lt)
 have HJ14:=aa (HJ14.out.below hU)
 have HD15:=aa (HD15.out.below hU)
 have HX14:=aa (HX14.out.below hU HX14.out.lt)
 have HX15:=aa (HX15.out.below hU HX15.out.lt)
 have HB:=aa (HB.out.trans (hU.mono HB.out.size))
 clear hU
 refine dd (.bool true) ?_
 simp only[Act.put,zp]
 refine dd (.bool true) ?_
 simp only[Act.put,zp]
 refine fX (.agg #[.slice b1 m1 f1,.slice b2 m2 f2,.int .i64 s.2.1.left,.bool s.2.1.stopped]) (CS (.tmp 12) kr X12 kr HX12.out) ?_
 simp only[Act.put,zp]
 refine fX (.agg #[.slice y1 i1 z1,.slice y2 i2 z2,.int .i64 s.2.1.left,.bool s.2.1.stopped]) (CS (.tmp 15) kr X15 kr HX15.out) ?_
 simp only[Act.put,zp]
 refine l8 70 (fun u w'=>u=.bool true/\Below w14.heap.size w14 w') kr rfl (fun K' Q' hK' => ?hcall) ?_
 case hcall =>
  unfold Oper.wp
  rw[show (execOp (Act.eval _) _).run Tryz.prog w14=.ok (.enter 13 #[.agg #[.slice b1 m1 f1,.slice b2 m2 f2,.int .i64 s.2.1.left,.bool s.2.1.stopped],.agg #[.slice y1 i1 z1,.slice y2 i2 z2,.int .i64 s.2.1.left,.bool s.2.1.stopped]]) w14 from by kernel_rfl]
  have hcc:Calls Tryz.prog 13 #[.agg #[.slice b1 m1 f1,.slice b2 m2 f2,.int .i64 s.2.1.left,.bool s.2.1.stopped],.agg #[.slice y1 i1 z1,.slice y2 i2 z2,.int .i64 s.2.1.left,.bool s.2.1.stopped]] w14 fun e w'=>e=.returned (.bool true)/\Below w14.heap.size w14 w':=DN b1 m1 f1 b2 m2 f2 y1 i1 z1 y2 i2 z2 s.2.1 w14 HD12.out HD15.out
  refine hcc.mono ?_
  rintro e w' ⟨rfl,hBe⟩
  exact hK' _ _ ⟨rfl,hBe⟩
 rintro _ w15 ⟨rfl,hU⟩
 simp only[Act.put,zp]
 have HJ5:=aa (HJ5.out.below hU)
 have HL6:=aa (HL6.out.below aq.keeps hU)
 have HX5:=aa (HX5.out.below hU HX5.out.lt)
 have HJ8:=aa (HJ8.out.below hU)
 have HL9:=aa (HL9.out.below aq.keeps hU)
 have HX8:=aa (HX8.out.below hU HX8.out.lt)
 have HJ11:=aa (HJ11.out.below hU)
 have HD12:=aa (HD12.out.below hU)
 have HX11:=aa (HX11.out.below hU HX11.out.lt)
 have HX12:=aa (HX12.out.below hU HX12.out.lt)
 have HJ14:=aa (HJ14.out.below hU)
 have HD15:=aa (HD15.out.below hU)
 have HX14:=aa (HX14.out.below hU HX14.out.lt)
 have HX15:=aa (HX15.out.below hU HX15.out.lt)
 have HB:=aa (HB.out.trans (hU.mono HB.out.size))
 clear hU
 refine dd (.bool true) ?_
 simp only[Act.put,zp]
 refine dd (.bool true) ?_
 simp only[Act.put,zp]
 refine dd (.int .i64 s.2.2) ?_
 simp only[Act.put,zp]
 refine dd (.int .i64 s.2.2) ?_
 simp only[Act.put,zp]
 refine fX (.bool true) (D7 (.tmp 73) (.tmp 74) kr s.2.2 kr kr) ?_
 simp only[Act.put,zp]
 refine dd (.bool true) ?_
 simp only[Act.put,zp]
 go_wp2_with fail
 go_ret
 exact⟨rfl,HB.out⟩
end Go.Proofs.YtmflnpdmlfmcpaaGreatDoor.Dr
