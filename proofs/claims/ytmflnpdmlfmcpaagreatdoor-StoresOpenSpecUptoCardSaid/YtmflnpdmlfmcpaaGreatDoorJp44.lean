/- Joined texts. -/
import Derived.Test.YtmflnpdmlfmcpaaGreatDoorJp39
set_option maxRecDepth 100000
set_option maxHeartbeats 8000000
namespace Go.Proofs.YtmflnpdmlfmcpaaGreatDoor
open Go.RowKit
variable {Nz : Nat}
theorem Eo (a1:Option Addr)(n1 c1:Nat)(a2:Option Addr)(n2 c2:Nat)(d:aj)(w:World)(hn:d.okB=true->n1<=100)(h:bF Nz w a1 n1 c1 a2 n2 c2 d) :
  Calls Tryz.prog 23 #[.agg #[.slice a1 n1 c1,.slice a2 n2 c2,.int .i64 d.left,.bool d.stopped]] w fun e w'=>eW Nz e w' (ci d).1 (ci d).2/\Below w.heap.size w w':=
 (rN a1 n1 c1 a2 n2 c2 d w hn h).mono fun _ _ ⟨⟨a,k,c,_,he,ho⟩,hb⟩=>⟨⟨a,k,c,he,ho.jour⟩,hb⟩
theorem tg (a:Option Addr)(n c:Nat)(j:am)(p1:Option Addr)(q1 r1:Nat)(p2:Option Addr)(q2 r2:Nat)(d:aj)(w w5:World)(sy G:Nat){u0 u1 u6 u7 u8 u9 u11 u12 u13 u14 u15 u16 u17 u18 u19 u20 u21 u22 u23 u24 u25 u26 u27 u28 u29 u30 u31 u32 u33 u34 u35 u36 u37 u38 u39 u40 u41 u42 u43 u44 u45 u46 u47 u48 u49 u50 u51 u52 u53 u54 u55 u56 u57 u58 u59 u60 u61 u62 u63 u64 u65 u66 u67 u68 u69 u70 u71 u72 u73 u74 u75 u76 u77 u78 u79 u80 u81 u82 u83 u84 u85 u86 u87 u88 u89 u90 u91 u92 u93 u94 u95 u96 u97 u98 u99 u100 u101 u102 u103 u104 u105 u106 u107 u108 u109 u110 u111 u112 u113 u114 u115 u116 u117 u118 u119 u120 u121 u122 u123 u124 u125 u126 u127 u128 u129 u130 u131 u132 u133 u134 u135 u136 u137 u138 u139 u140 u141 u142 u143 u144 u145 u146 u147 u148 u149 u150 u151 u152 u153 u154 u155 u156 u157 u158 u159 u160 u161 u162 u163 u164 u165 u166:Value}(hNz:Nz<=w.heap.size)(h:cg Nz w a n c j)(hsn:sy<=n)
  (hI:lk Nz w a n c j.many sy d w5 p1 q1 r1 p2 q2 r2) (hn1:d.secs.length<=100) (hok:j.okB=true) (hdk:d.okB=true) (hst:d.stopped=false) (h4:¬(j.many≠d.secs.length\/0<d.pend.length)) (hsy:j.synced=sy)
  (hG:cz d.secs+1=G) (hGl:G<=4294967295) (hrec:bN d.secs=j.recs.take sy) :
  Code.wp Tryz.prog (BY 9 (Tryz.f18.body.getD .skip)) (bodyPost Tryz.prog Tryz.f18 fun e w'=>eG Nz e w' (cC j d)/\Below w.heap.size w w') ⟨#[u0,u1,.pointer (some ⟨w.heap.size,0,none⟩),.pointer (some ⟨w.heap.size+1,0,none⟩),.pointer (some ⟨w.heap.size+1+1,0,none⟩),.pointer (some ⟨w.heap.size+1+1+1,0,none⟩),u6,u7,u8,u9,.int .u64 G,u11,u12,u13,u14,u15,u16,u17,u18,u19,u20,u21,u22,u23,u24,u25,u26,u27,u28,u29,u30,u31,u32,u33,u34,u35,u36,u37,u38,u39,u40,u41,u42,u43,u44,u45,u46,u47,u48,u49,u50,u51,u52,u53,u54,u55,u56,u57,u58,u59,u60,u61,u62,u63,u64,u65,u66,u67,u68,u69,u70,u71,u72,u73,u74,u75,u76,u77,u78,u79,u80,u81,u82,u83,u84,u85,u86,u87,u88,u89,u90,u91,u92,u93,u94,u95,u96,u97,u98,u99,u100,u101,u102,u103,u104,u105,u106,u107,u108,u109,u110,u111,u112,u113,u114,u115,u116,u117,u118,u119,u120,u121,u122,u123,u124,u125,u126,u127,u128,u129,u130,u131,u132,u133,u134,u135,u136,u137,u138,u139,u140,u141,u142,u143,u144,u145,u146,u147,u148,u149,u150,u151,u152,u153,u154,u155,u156,u157,u158,u159,u160,u161,u162,u163,u164,u165,u166],[]⟩ w5:=by
 conv=>arg 2;whnf
 have H:=aa h
 have HI:=aa hI
 have hcn:=h.k
 have hnm:=h.m
 have s1:(0:Int)<=(sy:Int):=om
 have s2:(sy:Int)<=(c:Int):=om
 have hB5:=hI.b
 obtain⟨_,g0,g1,g2,_,_,_,_⟩:=aJ (Below.refl _ w5) HI.out.x0
 obtain⟨_,f0,f1,f2,f3,_,_⟩:=aF (Below.refl _ w5) HI.out.x1
 obtain⟨hl2,t0,t1,t2,⟨i0,i1,i2⟩,y0,y1,y2⟩:=aJ (Below.refl _ w5) HI.out.x2
 obtain⟨hl3,b0,b1,b2,b3,⟨k0,k1,k2,k3⟩,z0,z1,z2,z3⟩:=aF (Below.refl _ w5) HI.out.x3
 have HOK:=aa hok
 have HDK:=aa hdk
 have HST:=aa hst
 have H4:=aa h4
 have SY:=aa hsy
 have GH:=aa hG
 have HREC:=aa hrec
 have HLEN:Hid (j.recs.length=n):=h.recs.len
 clear h hI hok hdk hst h4 hsy hG hrec
 by_cases hsl:sy=n
 ·subst hsl
  clear g0 g1 g2 f0 f1 f2 f3 t0 t1 t2 i0 i1 i2 y0 y1 y2 b0 b1 b2 b3 k0 k1 k2 k3 z0 z1 z2 z3 hl2 hl3
  obtain⟨_,g0,g1,g2,_,_,_,_⟩:=aJ (Below.refl _ w5) HI.out.x0
  go_upto_region 21 with (fail)
  clear g0 g1 g2
  obtain⟨w9,hw9⟩:∃w9:World,w9=w5.drew:=⟨_,rfl⟩
  have HI9:=aa (HI.out.below (Below.refl _ w5).drew)
  rw[<-hw9]at HI9
  obtain⟨_,g0,g1,g2,_,_,_,_⟩:=aJ (Below.refl _ w9) HI9.out.x0
  obtain⟨_,f0,f1,f2,f3,_,_⟩:=aF (Below.refl _ w9) HI9.out.x1
  have hS:w9.cell? ⟨w.heap.size,0,none⟩=some (.slice a sy c)/\w9.cell? ⟨w.heap.size,1,none⟩=some (.int .i64 j.many)/\w9.cell? ⟨w.heap.size,2,none⟩=some (.int .i64 sy)/\w9.cell? ⟨w.heap.size+1,0,none⟩=some (.slice p1 q1 r1)/\w9.cell? ⟨w.heap.size+1,1,none⟩=some (.slice p2 q2 r2)/\w9.cell? ⟨w.heap.size+1,2,none⟩=some (.int .i64 d.left)/\w9.cell? ⟨w.heap.size+1,3,none⟩=some (.bool d.stopped):=⟨g0,g1,g2,f0,f1,f2,f3⟩
  clear g0 g1 g2 f0 f1 f2 f3
  have hres:=kZ (Nz:=Nz) HI9.out.x2 HI9.out.x3 om (.slice a sy c) (.int .i64 j.many) (.int .i64 sy) (.slice p1 q1 r1) (.slice p2 q2 r2) (.int .i64 d.left) (.bool d.stopped)
  obtain⟨q1',q2',q3',q4',q5',q6'⟩:=hres
  have R1:=aa q1'
  have R2:=aa q2'
  have R3:=aa q3'
  have R4:=aa q4'
  have R5:=aa (q5' w.heap.size w om om HI9.out.b)
  have R6:=aa (q6' om om _ _ _ _ _ _ _ HI9.out.d)
  clear q1' q2' q3' q4' q5' q6'
  refine fQ (fun W=>W.cell? ⟨w.heap.size,0,none⟩=some (.slice a sy c)/\W.cell? ⟨w.heap.size,1,none⟩=some (.int .i64 j.many)/\W.cell? ⟨w.heap.size,2,none⟩=some (.int .i64 sy)/\W.cell? ⟨w.heap.size+1,0,none⟩=some (.slice p1 q1 r1)/\W.cell? ⟨w.heap.size+1,1,none⟩=some (.slice p2 q2 r2)/\W.cell? ⟨w.heap.size+1,2,none⟩=some (.int .i64 d.left)/\W.cell? ⟨w.heap.size+1,3,none⟩=some (.bool d.stopped)) [3,4] kr ?_
  change dH _ _ _ _ _ _ _ _ _ w5.drew
  rw[<-hw9]
  clear hw9
  refine cR 0 [2,3,4] (.agg #[(.slice a sy c),(.int .i64 j.many),(.int .i64 sy)]) rfl kr kr kr kr (fun _ _ _ h=>h) rfl (fun W ⟨g0,g1,g2,f0,f1,f2,f3⟩ => ?m0) hS ?_
  case m0=>(go_simp;try rfl)
  simp only[Act.put,zA]
  refine cR 1 [3,4] (.agg #[(.slice p1 q1 r1),(.slice p2 q2 r2),(.int .i64 d.left),(.bool d.stopped)]) rfl kr kr kr kr (fun _ _ _ h=>h) rfl (fun W ⟨g0,g1,g2,f0,f1,f2,f3⟩ => ?m1) hS ?_
  case m1=>(go_simp;try rfl)
  simp only[Act.put]
  obtain⟨_,t0,t1,t2,⟨i0,i1,i2⟩,y0,y1,y2⟩:=aJ (Below.refl _ w9) HI9.out.x2
  refine df 2 kr rfl rfl ?_
  have hS3:=cW.keep7 R2.out om om hS
  go_simp
  try refine⟨hS3,?_⟩
  clear hS3 t0 t1 t2 i0 i1 i2 y0 y1 y2 hS
  obtain⟨_,f0,f1,f2,f3,⟨e0,e1,e2,e3⟩,v0,v1,v2,v3⟩:=aF (Below.refl _ _) R1.out
  refine df 3 kr rfl rfl ?_
  go_simp
  clear f0 f1 f2 f3 e0 e1 e2 e3 v0 v1 v2 v3 R1 R2
  generalize (((((((w9.setCell ⟨w.heap.size+1+1,0,none⟩ (.slice a sy c)).setCell ⟨w.heap.size+1+1,1,none⟩ (.int .i64 j.many)).setCell ⟨w.heap.size+1+1,2,none⟩ (.int .i64 sy)).setCell ⟨w.heap.size+1+1+1,0,none⟩ (.slice p1 q1 r1)).setCell ⟨w.heap.size+1+1+1,1,none⟩ (.slice p2 q2 r2)).setCell ⟨w.heap.size+1+1+1,2,none⟩ (.int .i64 d.left)).setCell ⟨w.heap.size+1+1+1,3,none⟩ (.bool d.stopped))=wz at *
  refine df 4 kr rfl rfl ?_
  go_simp
  refine jx kr ?_
  obtain⟨_,f0,f1,f2,f3,_,_⟩:=aF (Below.refl _ wz) R4.out
  obtain⟨_,g0,g1,g2,_,_,_,_⟩:=aJ (Below.refl _ wz) R3.out
  go_wp2
  refine bodyPost_ret (by simp[results,Tryz.results18,go_sem,f0,f1,f2,f3,g0,g1,g2];try rfl) rfl ?_
  exact⟨rT H.out R5.out R6.out (by
     have hne:j.synced=j.recs.length:=by rw[SY.out,HLEN.out]
     rw[oQ HOK.out HDK.out HST.out H4.out (by
      rw[SY.out,Int.toNat_natCast,HREC.out,GH.out]
      rintro(h1|h1)
      ·exact h1 rfl
      ·omega) hne,<-SY.out]),R5.out⟩
 ·have hsl':¬(sy:Int)=(n:Int):=om
  have hlt:sy<n:=om
  have hs3:¬sy=c:=om
  have hs4:(sy:Int)<(n:Int):=om
  obtain⟨ab,ao,rfl,hrc⟩:∃b off,a=some ⟨b,off,none⟩/\∀(i:Nat) x,j.recs[i]? = some x->∃xa xn xc,xn<=maxLen/\xn<=xc/\Sl 1 ai w xa xn x/\w.cell? ⟨b,off+i,none⟩=some (.slice xa xn xc):=by
   rcases H.out.recs.secs with h0|⟨b,off,h0,hc⟩
   ·omega
   ·exact⟨b,off,h0,fun i x hx=>by
     obtain⟨xa,xn,xc,e1,e2,e3,e4⟩:=hc i x hx
     exact⟨xa,xn,xc,e1,e2,e3,e4⟩⟩
  have HRC:=aa hrc
  have HU:Hid (Calls Tryz.prog 42 #[.slice (some ⟨ab,ao,none⟩) sy c] w5 fun e w'=>e=.returned (.int .i64 (au (j.recs.take sy)))/\w5=w'):=ni _ sy c _ w5 om (fun b hb=>H.out.s b (List.mem_of_mem_take hb)) (nE (H.out.recs.below aN.keeps hB5) hsn)
  obtain⟨A0,hA0⟩:=zg (au (j.recs.take sy))
  rw[<-hA0]at HU
  have HA:=aa hA0
  clear hA0 hrc
  go_wp2_with (go_at_call 42;refine HU.out.mono ?_;rintro e w' ⟨rfl,rfl⟩)
  clear HU g0 g1 g2 f0 f1 f2 f3 t0 t1 t2 i0 i1 i2 y0 y1 y2 b0 b1 b2 b3 k0 k1 k2 k3 z0 z1 z2 z3 hl2 hl3
  obtain⟨post,hpost⟩:=zg (j.recs.drop sy)
  obtain⟨m,hm⟩:=zg (n-sy)
  have hpl:post.length=m:=by rw[hpost,List.length_drop,HLEN.out,hm]
  have hpg:∀i:Nat,post[i]? = j.recs[sy+i]? := fun i=>by rw[hpost,List.getElem?_drop]
  have HPG:=aa hpg
  have HPL:=aa hpl
  have hnm2:(n:Int)-(sy:Int)=(m:Int):=om
  have hroom:A0+au post<=d.secs.length:=by
   have h1:au j.recs=au (j.recs.take sy)+au (j.recs.drop sy):=by
    rw[<-lY,List.take_append_drop]
   have h2:=eM HOK.out
   have h3:=H4.out
   rw[HA.out,hpost]
   omega
  have HROOM:=aa hroom
  have HP:=aa hpost
  clear hpost hpl hpg hroom
  obtain⟨wo,rfl⟩:∃wo:World,wo=w5:=⟨_,rfl⟩
  go_loopw [13,110] (fun s13 s110 wr=>∃(i:Nat) (x:aj) (p1:Option Addr) (q1 r1:Nat) (p2:Option Addr) (q2 r2:Nat),i<=m/\s110=.int .i64 i/\s13=.int .i64 ((A0+au (post.take i):Nat):Int)/\x=bB G d A0 (post.take i)/\lk Nz w (some ⟨ab,ao,none⟩) n c j.many sy x wr p1 q1 r1 p2 q2 r2) (fun _ s110 _=>m-(intOf s110).toNat)
  case atStart=>exact⟨0,d,p1,q1,r1,p2,q2,r2,Nat.zero_le _,rfl,rfl,rfl,HI.out⟩
  case round =>
   obtain⟨i,x,p1,q1,r1,p2,q2,r2,hi,rfl,rfl,hx,hI⟩:=hrel
   have HX:=aa hx
   have HIi:=aa hI
   obtain⟨Ai,hAi⟩:=zg (A0+au (post.take i))
   rw[<-hAi]
   have HAi:=aa hAi
   clear hx hI hAi HI
   by_cases hlt:i<m
   ·obtain⟨b,hb⟩:=av HPL.out hlt
    have hb2:=hb
    rw[HPG.out]at hb2
    obtain⟨xa,xn,xc,x1,x2,x3,x4⟩:=HRC.out _ b hb2
    have hxn:b.length=xn:=x3.len
    have hxs:xn<=100000:=by rw[<-hxn];exact H.out.s b (List.mem_of_getElem? hb2)
    have hcell:wr.cell? ⟨ab,ao+sy+i,none⟩=some (.slice xa xn xc):=by
     have:=ag HIi.out.b x4
     rwa [show ao+(sy+i)=ao+sy+i by omega]at this
    obtain⟨K,hK⟩:=zg (bd xn)
    have HK:=aa hK
    have HSEC:Hid (∀W,Calls Tryz.prog 41 #[.slice xa xn xc] W fun e w'=>e=.returned (.int .i64 K)/\W=w'):=fun W=>by rw[hK];exact jU xa xn xc W hxs
    have HB:=aa hb
    have HXS:=aa x3
    have HXN:=aa hxn
    have k0:(0:Int)<=(i:Int):=om
    have k1:(i:Int)<(m:Int):=om
    clear hb hb2 x1 x3 x4 hxn hK
    go_wp2_with (go_at_call 41;refine(HSEC.out _).mono ?_;rintro e w' ⟨rfl,rfl⟩)
    have hxr:x.runs=true/\x.secs.length=d.secs.length/\x.pend.length=au (post.take i)/\Ai+K<=d.secs.length:=by
     have h1:au (post.take i)+K<=au post:=by
      have h2:au (post.take (i+1))=au (post.take i)+bd b.length:=iK _ _ _ HB.out
      have h3:au (post.take (i+1))+au (post.drop (i+1))=au post:=by rw[<-lY,List.take_append_drop]
      rw[HXN.out,<-HK.out]at h2
      omega
     have h4:=HROOM.out
     have h5:d.pend.length=0:=by have:=H4.out;omega
     have h6:d.runs=true:=by simp[aj.runs,HDK.out,HST.out]
     rw[HX.out]
     refine⟨lX h6 om om,by rw[lW],by rw[rS,h5];omega,by rw[HAi.out];omega⟩
    have HXR:=aa hxr
    clear hxr
    clear hcell HSEC
    obtain⟨wo2,rfl⟩:∃wo2:World,wo2=wr:=⟨_,rfl⟩
    go_loopw [13,15,16,17] (fun s13 s15 s16 s17 wr=>∃(k:Nat) (z:aj) (ra:Option Addr) (rn rc:Nat) (p1:Option Addr) (q1 r1:Nat) (p2:Option Addr) (q2 r2:Nat),k<=K/\s17=.int .i64 ((K-k:Nat):Int)/\s13=.int .i64 ((Ai+k:Nat):Int)/\s15=.slice ra rn rc/\s16=.int .u8 ((tq (decide (k=0)):Nat):Int)/\rn<=rc/\Sl 1 ai w ra rn (b.drop (112*k))/\z=dy x G Ai b k/\lk Nz w (some ⟨ab,ao,none⟩) n c j.many sy z wr p1 q1 r1 p2 q2 r2) (fun _ _ _ s17 _=>(intOf s17).toNat)
    case atStart=>exact⟨0,x,xa,xn,xc,p1,q1,r1,p2,q2,r2,Nat.zero_le _,rfl,rfl,rfl,rfl,x2,by simpa using HXS.out,rfl,HIi.out⟩
    case round =>
     obtain⟨k,z,ra,rn,rc,p1,q1,r1,p2,q2,r2,hk,rfl,rfl,rfl,rfl,hrc,hrs,hz,hI⟩:=hrel
     have HIk:=aa hI
     have HZ:=aa hz
     have HRS:=aa hrs
     obtain⟨q,hq⟩:=zg (K-k)
     obtain⟨bg,hbg⟩:=zg (tq (decide (k=0)))
     obtain⟨P,hP⟩:=zg (Ai+k)
     obtain⟨kd,hkd⟩:=zg (dg (decide (k=0)) (decide (k+1=K)))
     have hbg2:bg=0\/bg=1:=by rw[hbg];unfold tq;split<;>simp
     have hkd2:kd=if q=1 then bg+2 else bg:=by
      rw[hkd,hbg,hq]
      unfold dg tq
      by_cases h1:k+1=K
      ·rw[if_pos (show K-k=1 by omega)];simp[h1]
      ·rw[if_neg (show ¬K-k=1 by omega)];simp[h1]
     have hkd4:kd<=3:=by rw[hkd2];split<;>omega
     rw[<-hq,<-hbg,<-hP]
     have HQ:=aa hq
     have HPP:=aa hP
     have HKD:=aa hkd
     have HKD2:=aa hkd2
     have HBG2:=aa hbg2
     clear hI hz hrs hbg hP hkd hkd2 hbg2 hq HIi
     by_cases hq0:0<q
     ·go_upto_block 5 with (fail)
      go_step
      go_step
      go_cut [16] (fun s16 wx=>s16=.int .u8 (kd:Int)/\wx=wr)
      case first =>
       have hor:kd=if q=1 then bg+2 else bg:=HKD2.out
       rcases HBG2.out with h0|h0
       all_goals
        subst h0
        have hq1:q=1\/¬q=1:=om
        rcases hq1 with hq1|hq1
       all_goals
        first|rw[if_pos hq1]at hor|rw[if_neg hq1]at hor
        subst hor
        have hb1:((q:Int) == 1)=decide (q=1):=by rw[Bool.eq_iff_iff];simp;omega
        first|rw[decide_eq_true hq1]at hb1|rw[decide_eq_false hq1]at hb1
        clear hq1
        go_wp2
        go_meet
        exact⟨rfl,rfl⟩
      case rest =>
      obtain⟨rfl,hwc⟩:=hcut
      rw[hwc]
      clear hwc
      go_upto_region 33 with (fail)
      have hmin:(if (112:Int)<(rn:Int) then (112:Int) else (rn:Int))=((min rn 112:Nat):Int):=by split<;>omega
      rw[hmin]
      obtain⟨t,ht⟩:=zg (min rn 112)
      rw[<-ht]
      have t1:t<=rn:=om
      have t2:t<=112:=om
      have t3:(t:Int)<=(rc:Int):=om
      have t4:(0:Int)<=(t:Int):=om
      have hpc:(b.drop (112*k)).take t=dM b k:=by
       rw[ht,dM,<-HRS.out.len]
       rw[Nat.min_comm,<-List.take_take,List.take_length]
      have HT:=aa ht
      have HEN:Hid (∀W,Below wr.heap.size wr W->Calls Tryz.prog 50 #[.int .u64 G,.int .i64 P,.int .u8 kd,.slice ra t rc] W fun e w'=>e=.returned (.slice (some ⟨W.heap.size,0,none⟩) 128 128)/\ac w' W.heap.size 115 (af (cl G Ai b k))/\Below W.heap.size W w'):=fun W hW=>by
       have h1:=gP G P kd ra t rc (dM b k) W om (by have:=HXR.out.2.2.2;have:=HPP.out;have:=HQ.out;omega) om t2 (by
        have h2:=nE (HRS.out.below ai.keeps (HIk.out.b.trans (hW.mono HIk.out.b.size))) t1
        rwa [hpc]at h2)
       rw[show eK G P kd (dM b k)=cl G Ai b k by rw[cl,<-HPP.out,HKD.out,HK.out,HXN.out]]at h1
       exact h1
      have HWR:Hid (∀W g,Below wr.heap.size wr W->ac W g 115 (af (cl G Ai b k))->Calls Tryz.prog 49 #[.agg #[.slice p1 q1 r1,.slice p2 q2 r2,.int .i64 z.left,.bool z.stopped],.int .i64 P,.slice (some ⟨g,0,none⟩) 128 128] W fun e w'=>i6 Nz e w' (dy x G Ai b (k+1)) 0/\Below W.heap.size W w'):=fun W g hW hg=>by
       refine Af (HIk.out.d.below hW) (fs _ 128 (fM _ _ _ _) hg) (by unfold maxLen;omega) ?_
       obtain⟨e1,e2,e3,e4⟩:=HXR.out
       have e5:d.secs.length<=100:=hn1
       have e6:=HQ.out
       have e7:au (post.take i)<=Ai:=by rw[HAi.out];omega
       rw[HZ.out,HPP.out]
       exact rP (mX k e1 om om) om om
      clear hpc hmin ht
      obtain⟨_,f0,f1,f2,f3,_,_⟩:=aF (Below.refl _ wr) HIk.out.x1
      have hS:wr.cell? ⟨w.heap.size+1,0,none⟩=some (.slice p1 q1 r1)/\wr.cell? ⟨w.heap.size+1,1,none⟩=some (.slice p2 q2 r2)/\wr.cell? ⟨w.heap.size+1,2,none⟩=some (.int .i64 z.left)/\wr.cell? ⟨w.heap.size+1,3,none⟩=some (.bool z.stopped):=⟨f0,f1,f2,f3⟩
      clear f0 f1 f2 f3
      refine fQ (fun W=>W.cell? ⟨w.heap.size+1,0,none⟩=some (.slice p1 q1 r1)/\W.cell? ⟨w.heap.size+1,1,none⟩=some (.slice p2 q2 r2)/\W.cell? ⟨w.heap.size+1,2,none⟩=some (.int .i64 z.left)/\W.cell? ⟨w.heap.size+1,3,none⟩=some (.bool z.stopped)) [9,10,11,12,13,14] kr ?_
      refine cR 0 [9,10,11,12,13,14] (.agg #[.slice p1 q1 r1,.slice p2 q2 r2,.int .i64 z.left,.bool z.stopped]) rfl kr kr kr kr (fun _ _ _ h=>h) rfl (fun W ⟨f0,f1,f2,f3⟩ => ?y0) hS ?_
      case y0=>(go_simp;try rfl)
      simp only[Act.put,zA]
      refine cR 1 [9,10,11,12,13,14] (.int .i64 P) rfl kr kr kr kr (fun _ _ _ h=>h) rfl (fun W ⟨f0,f1,f2,f3⟩ => ?y1) hS ?_
      case y1=>(go_simp;try rfl)
      simp only[Act.put]
      refine cR 2 [8,9,10,11,12,13,14] (.int .u64 G) rfl kr kr kr kr (fun _ _ _ h=>h) rfl (fun W ⟨f0,f1,f2,f3⟩ => ?y2) hS ?_
      case y2=>(go_simp;try rfl)
      simp only[Act.put]
      refine cR 3 [8,9,10,11,12,13,14] (.int .i64 P) rfl kr kr kr kr (fun _ _ _ h=>h) rfl (fun W ⟨f0,f1,f2,f3⟩ => ?y3) hS ?_
      case y3=>(go_simp;try rfl)
      simp only[Act.put]
      refine cR 4 [8,9,10,11,12,13,14] (.int .u8 kd) rfl kr kr kr kr (fun _ _ _ h=>h) rfl (fun W ⟨f0,f1,f2,f3⟩ => ?y4) hS ?_
      case y4=>(go_simp;try rfl)
      simp only[Act.put]
      refine cR 5 [7,8,9,10,11,12,13,14] (.slice ra rn rc) rfl kr kr kr kr (fun _ _ _ h=>h) rfl (fun W ⟨f0,f1,f2,f3⟩ => ?y5) hS ?_
      case y5=>(go_simp;try rfl)
      simp only[Act.put]
      refine cR 6 [7,8,9,10,11,12,13,14] (.int .i64 t) rfl kr kr kr kr (fun _ _ _ h=>h) rfl (fun W ⟨f0,f1,f2,f3⟩ => ?y6) hS ?_
      case y6=>(go_simp;try rfl)
      simp only[Act.put]
      refine cR 7 [8,9,10,11,12,13,14] (.slice ra t rc) rfl kr kr kr kr (fun _ _ _ h=>h) rfl (fun W ⟨f0,f1,f2,f3⟩ => ?y7) hS ?_
      case y7=>(go_simp;try rfl)
      simp only[Act.put]
      refine df 8 kr rfl rfl ?_
      go_simp
      refine(HEN.out _ (Below.refl _ wr).drew).mono ?_
      rintro e w6 ⟨rfl,hrow,hB6⟩
      have hBd:Below wr.heap.size wr w6:=(Below.refl _ wr).drew.trans hB6
      have hS6:=B6 hBd hS
      have HROW:=aa hrow
      refine⟨hS6,?_⟩
      clear hrow
      refine df 9 kr rfl rfl ?_
      go_simp
      refine(HWR.out _ _ hBd HROW.out).mono ?_
      rintro e w7 ⟨⟨a1',n1',c1',a2',n2',c2',rfl,hJ⟩,hB7⟩
      have hBe:Below wr.heap.size wr w7:=hBd.trans (hB7.mono hBd.size)
      have HJ:=aa hJ
      clear hJ hS6 hS HROW hB6 hB7 hBd HEN HWR
      obtain⟨z',hz'⟩:∃z',z'=dy x G Ai b (k+1):=⟨_,rfl⟩
      rw[<-hz']at HJ ⊢
      have HZ':=aa hz'
      clear hz'
      go_simp
      refine df 10 kr rfl rfl ?_
      go_simp
      refine lw 11 (.agg #[.slice a1' n1' c1',.slice a2' n2' c2',.int .i64 z'.left,.bool z'.stopped]) rfl kr kr kr kr (fun _ _ _ h=>h) rfl (fun W => ?y11) ?_
      case y11=>(go_simp;try rfl)
      simp only[Act.put]
      refine lw 12 (.int .i64 0) rfl kr kr kr kr (fun _ _ _ h=>h) rfl (fun W => ?y12) ?_
      case y12=>(go_simp;try rfl)
      simp only[Act.put]
      have HI7:=aa ((HIk.out.below hBe).stored hNz HJ.out)
      obtain⟨_,f0,f1,f2,f3,⟨e0,e1,e2,e3⟩,v0,v1,v2,v3⟩:=aF (Below.refl _ w7) (HIk.out.below hBe).x1
      refine df 13 kr rfl rfl ?_
      go_simp
      clear f0 f1 f2 f3 e0 e1 e2 e3 v0 v1 v2 v3 hBe
      generalize ((((w7.setCell ⟨w.heap.size+1,0,none⟩ (.slice a1' n1' c1')).setCell ⟨w.heap.size+1,1,none⟩ (.slice a2' n2' c2')).setCell ⟨w.heap.size+1,2,none⟩ (.int .i64 z'.left)).setCell ⟨w.heap.size+1,3,none⟩ (.bool z'.stopped))=w8 at *
      refine df 14 kr rfl rfl ?_
      go_simp
      refine jx kr ?_
      have hPb:P<=100:=by have:=HXR.out.2.2.2;have:=HPP.out;have:=HQ.out;omega
      have hqb:q<=100:=by have:=HXR.out.2.2.2;have:=HQ.out;omega
      have hkl:b.length-112*k=rn:=by have:=HRS.out.len;simpa using this
      have hq1:((q:Int)-1)=((K-(k+1):Nat):Int):=by have:=HQ.out;omega
      have hP1:((P:Int)+1)=((Ai+(k+1):Nat):Int):=by have:=HPP.out;omega
      have hk1:k+1<=K:=by have:=HQ.out;omega
      have HKL:=aa hkl
      have HQ1:=aa hq1
      have HP1:=aa hP1
      clear hkl hq1 hP1
      have HNIL:Hid (t=rn->∀ra',Sl 1 ai w ra' 0 (b.drop (112*(k+1)))):=fun h ra'=>by
       have e:b.drop (112*(k+1))=[]:=List.drop_eq_nil_of_le (by have:=HKL.out;omega)
       rw[e]
       exact⟨rfl,.inl rfl⟩
      have HBG:Hid (Value.int .u8 0=Value.int .u8 ((tq (decide (k+1=0)):Nat):Int)):=by show _=_;simp[tq]
      by_cases hlast:t=rn
      ·have HNIL2:=aa (HNIL.out hlast)
       by_cases htc:t=rc
       ·have e1:rn=rc:=om
        subst e1
        subst hlast
        go_wp2
        exact⟨⟨k+1,z',_,_,_,_,_,_,_,_,_,hk1,by rw[HQ1.out],by rw[HP1.out],rfl,HBG.out,Nat.le_refl _,HNIL2.out _,HZ'.out,HI7.out⟩,by simp[intOf];omega⟩
       ·subst hlast
        go_wp2
        exact⟨⟨k+1,z',_,_,_,_,_,_,_,_,_,hk1,by rw[HQ1.out],by rw[HP1.out],rfl,HBG.out,Nat.zero_le _,HNIL2.out _,HZ'.out,HI7.out⟩,by simp[intOf];omega⟩
      ·have ht112:t=112:=by have:=HT.out;omega
       subst ht112
       obtain⟨b3,o3,rfl⟩:∃b o,ra=some ⟨b,o,none⟩:=by
        rcases HRS.out.bytes with h0|⟨b,o,h0,_⟩
        ·omega
        ·exact⟨b,o,h0⟩
       have htc:¬rc=112:=om
       have hnx:=gQ HRS.out 112 (rn-112) om
       rw[List.drop_drop,show 112*k+112=112*(k+1) by omega,List.take_of_length_le (by rw[List.length_drop];have:=HKL.out;omega)]at hnx
       have HNX:=aa hnx
       clear hnx
       go_wp2
       exact⟨⟨k+1,z',_,_,_,_,_,_,_,_,_,hk1,by rw[HQ1.out],by rw[HP1.out],rfl,HBG.out,om,HNX.out,HZ'.out,HI7.out⟩,by simp[intOf];omega⟩
     ·obtain rfl:q=0:=om
      obtain rfl:k=K:=by have:=HQ.out;omega
      have hsn1:z=bB G d A0 (post.take (i+1)):=by
       rw[HZ.out,rQ G d A0 post i b HB.out,<-HX.out,<-HAi.out,HXN.out,<-HK.out]
      have hat1:P=A0+au (post.take (i+1)):=by
       have h1:=iK post i b HB.out
       have h2:=HPP.out
       have h3:=HAi.out
       rw[HXN.out,<-HK.out]at h1
       omega
      have HS1:=aa hsn1
      have HA1:=aa hat1
      clear hsn1 hat1
      go_wp2
      exact⟨⟨i+1,z,_,_,_,_,_,_,om,by go_num,by rw[HA1.out],HS1.out,HIk.out⟩,by simp[intOf];omega⟩
   ·obtain rfl:i=m:=om
    have hxx:x=bB G d A0 post:=by rw[HX.out,List.take_of_length_le (by rw[HPL.out];omega)]
    obtain⟨y,hy⟩:=zg x.sync.1
    obtain⟨nn,hnn⟩:=zg x.sync.2
    have hsy:x.sync=(y,nn):=by rw[hy,hnn]
    have HSY:=aa hsy
    have HXX:=aa hxx
    clear hxx hy hnn hsy
    obtain⟨_,f0,f1,f2,f3,_,_⟩:=aF (Below.refl _ wr) HIi.out.x1
    go_wp2_with fail
    refine(Br HIi.out.d HSY.out).mono ?_
    rintro e w6 ⟨⟨a1',n1',c1',a2',n2',c2',rfl,hJ⟩,hB6⟩
    have HJ:=aa hJ
    have HI6:=aa ((HIi.out.below hB6).stored hNz HJ.out)
    clear f0 f1 f2 f3 hJ
    obtain⟨_,f0,f1,f2,f3,⟨e0,e1,e2,e3⟩,v0,v1,v2,v3⟩:=aF (Below.refl _ w6) (HIi.out.below hB6).x1
    go_upto_region 40 with (fail)
    clear f0 f1 f2 f3 e0 e1 e2 e3 v0 v1 v2 v3 hB6
    generalize ((((w6.setCell ⟨w.heap.size+1,0,none⟩ (.slice a1' n1' c1')).setCell ⟨w.heap.size+1,1,none⟩ (.slice a2' n2' c2')).setCell ⟨w.heap.size+1,2,none⟩ (.int .i64 y.left)).setCell ⟨w.heap.size+1,3,none⟩ (.bool y.stopped))=w7 at *
    by_cases hn0:nn=0
    ·subst hn0
     obtain⟨_,g0,g1,g2,⟨i0,i1,i2⟩,y0,y1,y2⟩:=aJ (Below.refl _ w7) HI6.out.x0
     have HI7:=aa (HI6.out.len hNz n)
     go_upto_region 43 with (fail)
     clear g0 g1 g2 i0 i1 i2 y0 y1 y2
     generalize w7.setCell ⟨w.heap.size,2,none⟩ (.int .i64 n)=w8 at *
     obtain⟨w9,hw9⟩:∃w9:World,w9=w8.drew:=⟨_,rfl⟩
     have HI9:=aa (HI7.out.below (Below.refl _ w8).drew)
     rw[<-hw9]at HI9
     obtain⟨_,g0,g1,g2,_,_,_,_⟩:=aJ (Below.refl _ w9) HI9.out.x0
     obtain⟨_,f0,f1,f2,f3,_,_⟩:=aF (Below.refl _ w9) HI9.out.x1
     have hS:w9.cell? ⟨w.heap.size,0,none⟩=some (.slice (some ⟨ab,ao,none⟩) n c)/\w9.cell? ⟨w.heap.size,1,none⟩=some (.int .i64 j.many)/\w9.cell? ⟨w.heap.size,2,none⟩=some (.int .i64 n)/\w9.cell? ⟨w.heap.size+1,0,none⟩=some (.slice a1' n1' c1')/\w9.cell? ⟨w.heap.size+1,1,none⟩=some (.slice a2' n2' c2')/\w9.cell? ⟨w.heap.size+1,2,none⟩=some (.int .i64 y.left)/\w9.cell? ⟨w.heap.size+1,3,none⟩=some (.bool y.stopped):=⟨g0,g1,g2,f0,f1,f2,f3⟩
     clear g0 g1 g2 f0 f1 f2 f3
     have hres:=kZ (Nz:=Nz) HI9.out.x2 HI9.out.x3 om (.slice (some ⟨ab,ao,none⟩) n c) (.int .i64 j.many) (.int .i64 n) (.slice a1' n1' c1') (.slice a2' n2' c2') (.int .i64 y.left) (.bool y.stopped)
     obtain⟨q1',q2',q3',q4',q5',q6'⟩:=hres
     have R1:=aa q1'
     have R2:=aa q2'
     have R3:=aa q3'
     have R4:=aa q4'
     have R5:=aa (q5' w.heap.size w om om HI9.out.b)
     have R6:=aa (q6' om om _ _ _ _ _ _ _ HI9.out.d)
     clear q1' q2' q3' q4' q5' q6'
     refine fQ (fun W=>W.cell? ⟨w.heap.size,0,none⟩=some (.slice (some ⟨ab,ao,none⟩) n c)/\W.cell? ⟨w.heap.size,1,none⟩=some (.int .i64 j.many)/\W.cell? ⟨w.heap.size,2,none⟩=some (.int .i64 n)/\W.cell? ⟨w.heap.size+1,0,none⟩=some (.slice a1' n1' c1')/\W.cell? ⟨w.heap.size+1,1,none⟩=some (.slice a2' n2' c2')/\W.cell? ⟨w.heap.size+1,2,none⟩=some (.int .i64 y.left)/\W.cell? ⟨w.heap.size+1,3,none⟩=some (.bool y.stopped)) [3,4] kr ?_
     change dH _ _ _ _ _ _ _ _ _ w8.drew
     rw[<-hw9]
     clear hw9
     refine cR 0 [2,3,4] (.agg #[(.slice (some ⟨ab,ao,none⟩) n c),(.int .i64 j.many),(.int .i64 n)]) rfl kr kr kr kr (fun _ _ _ h=>h) rfl (fun W ⟨g0,g1,g2,f0,f1,f2,f3⟩ => ?m0) hS ?_
     case m0=>(go_simp;try rfl)
     simp only[Act.put,zA]
     refine cR 1 [3,4] (.agg #[(.slice a1' n1' c1'),(.slice a2' n2' c2'),(.int .i64 y.left),(.bool y.stopped)]) rfl kr kr kr kr (fun _ _ _ h=>h) rfl (fun W ⟨g0,g1,g2,f0,f1,f2,f3⟩ => ?m1) hS ?_
     case m1=>(go_simp;try rfl)
     simp only[Act.put]
     obtain⟨_,t0,t1,t2,⟨i0,i1,i2⟩,y0,y1,y2⟩:=aJ (Below.refl _ w9) HI9.out.x2
     refine df 2 kr rfl rfl ?_
     have hS3:=cW.keep7 R2.out om om hS
     go_simp
     try refine⟨hS3,?_⟩
     clear hS3 t0 t1 t2 i0 i1 i2 y0 y1 y2 hS
     obtain⟨_,f0,f1,f2,f3,⟨e0,e1,e2,e3⟩,v0,v1,v2,v3⟩:=aF (Below.refl _ _) R1.out
     refine df 3 kr rfl rfl ?_
     go_simp
     clear f0 f1 f2 f3 e0 e1 e2 e3 v0 v1 v2 v3 R1 R2
     generalize (((((((w9.setCell ⟨w.heap.size+1+1,0,none⟩ (.slice (some ⟨ab,ao,none⟩) n c)).setCell ⟨w.heap.size+1+1,1,none⟩ (.int .i64 j.many)).setCell ⟨w.heap.size+1+1,2,none⟩ (.int .i64 n)).setCell ⟨w.heap.size+1+1+1,0,none⟩ (.slice a1' n1' c1')).setCell ⟨w.heap.size+1+1+1,1,none⟩ (.slice a2' n2' c2')).setCell ⟨w.heap.size+1+1+1,2,none⟩ (.int .i64 y.left)).setCell ⟨w.heap.size+1+1+1,3,none⟩ (.bool y.stopped))=wz at *
     refine df 4 kr rfl rfl ?_
     go_simp
     refine jx kr ?_
     obtain⟨_,f0,f1,f2,f3,_,_⟩:=aF (Below.refl _ wz) R4.out
     obtain⟨_,g0,g1,g2,_,_,_,_⟩:=aJ (Below.refl _ wz) R3.out
     go_wp2
     refine bodyPost_ret (by simp[results,Tryz.results18,go_sem,f0,f1,f2,f3,g0,g1,g2];try rfl) rfl ?_
     exact⟨rT H.out R5.out R6.out (by
           have hne:j.synced≠j.recs.length:=by rw[SY.out,HLEN.out];omega
           have h0:bB (cz d.secs+1) d (au (j.recs.take j.synced.toNat)) (j.recs.drop j.synced.toNat)=x:=by
            rw[SY.out,Int.toNat_natCast,GH.out,<-HA.out,<-HP.out,HXX.out]
           rw[oR HOK.out HDK.out HST.out H4.out (by
            rw[SY.out,Int.toNat_natCast,HREC.out,GH.out]
            rintro(h1|h1)
            ·exact h1 rfl
            ·omega) hne h0 HSY.out,HLEN.out]),R5.out⟩
    ·have hn1':(nn == 0)=false:=by simpa using hn0
     have hn2':(nn != 0)=true:=by simpa using hn0
     go_upto_region 41 with (fail)
     obtain⟨w9,hw9⟩:∃w9:World,w9=w7.drew:=⟨_,rfl⟩
     have HI9:=aa (HI6.out.below (Below.refl _ w7).drew)
     rw[<-hw9]at HI9
     obtain⟨_,f0,f1,f2,f3,_,_⟩:=aF (Below.refl _ w9) HI9.out.x1
     have hS:w9.cell? ⟨w.heap.size+1,0,none⟩=some (.slice a1' n1' c1')/\w9.cell? ⟨w.heap.size+1,1,none⟩=some (.slice a2' n2' c2')/\w9.cell? ⟨w.heap.size+1,2,none⟩=some (.int .i64 y.left)/\w9.cell? ⟨w.heap.size+1,3,none⟩=some (.bool y.stopped):=⟨f0,f1,f2,f3⟩
     clear f0 f1 f2 f3
     obtain⟨q1',q2',q3',q4',q5',q6'⟩:=kZ (Nz:=Nz) HI9.out.x2 HI9.out.x3 om (.slice none 0 0) (.int .i64 0) (.int .i64 0) (.slice a1' n1' c1') (.slice a2' n2' c2') (.int .i64 y.left) (.bool y.stopped)
     have R1:=aa q1'
     have R2:=aa q2'
     have R3:=aa q3'
     have R4:=aa q4'
     have R5:=aa (q5' w.heap.size w om om HI9.out.b)
     have R6:=aa (q6' om om _ _ _ _ _ _ _ HI9.out.d)
     clear q1' q2' q3' q4' q5' q6'
     refine fQ (fun W=>W.cell? ⟨w.heap.size+1,0,none⟩=some (.slice a1' n1' c1')/\W.cell? ⟨w.heap.size+1,1,none⟩=some (.slice a2' n2' c2')/\W.cell? ⟨w.heap.size+1,2,none⟩=some (.int .i64 y.left)/\W.cell? ⟨w.heap.size+1,3,none⟩=some (.bool y.stopped)) [2,4,5] kr ?_
     change dH _ _ _ _ _ _ _ _ _ w7.drew
     rw[<-hw9]
     clear hw9
     refine lw 2 (.int .i64 nn) rfl kr kr kr kr (fun _ _ _ h=>h) rfl (fun W => ?n2) ?_
     case n2=>(go_simp;try rfl)
     simp only[Act.put,zA]
     refine cR 0 [3,4,5] (.agg #[(.slice none 0 0),(.int .i64 0),(.int .i64 0)]) rfl kr kr kr kr (fun _ _ _ h=>h) rfl (fun W ⟨f0,f1,f2,f3⟩ => ?n0) hS ?_
     case n0=>(go_simp;try rfl)
     simp only[Act.put]
     refine cR 1 [4,5] (.agg #[(.slice a1' n1' c1'),(.slice a2' n2' c2'),(.int .i64 y.left),(.bool y.stopped)]) rfl kr kr kr kr (fun _ _ _ h=>h) rfl (fun W ⟨f0,f1,f2,f3⟩ => ?n1) hS ?_
     case n1=>(go_simp;try rfl)
     simp only[Act.put]
     obtain⟨_,t0,t1,t2,⟨i0,i1,i2⟩,y0,y1,y2⟩:=aJ (Below.refl _ w9) HI9.out.x2
     refine df 3 kr rfl rfl ?_
     have hS3:=And.intro ((R2.out.cell (p:=⟨w.heap.size+1,0,none⟩) (by show w.heap.size+1≠_;omega)).trans hS.1) (And.intro ((R2.out.cell (p:=⟨w.heap.size+1,1,none⟩) (by show w.heap.size+1≠_;omega)).trans hS.2.1) (And.intro ((R2.out.cell (p:=⟨w.heap.size+1,2,none⟩) (by show w.heap.size+1≠_;omega)).trans hS.2.2.1) ((R2.out.cell (p:=⟨w.heap.size+1,3,none⟩) (by show w.heap.size+1≠_;omega)).trans hS.2.2.2)))
     go_simp
     try refine⟨hS3,?_⟩
     clear hS3 t0 t1 t2 i0 i1 i2 y0 y1 y2 hS
     obtain⟨_,f0,f1,f2,f3,⟨e0,e1,e2,e3⟩,v0,v1,v2,v3⟩:=aF (Below.refl _ _) R1.out
     refine df 4 kr rfl rfl ?_
     go_simp
     clear f0 f1 f2 f3 e0 e1 e2 e3 v0 v1 v2 v3 R1 R2
     generalize (((((((w9.setCell ⟨w.heap.size+1+1,0,none⟩ (.slice none 0 0)).setCell ⟨w.heap.size+1+1,1,none⟩ (.int .i64 0)).setCell ⟨w.heap.size+1+1,2,none⟩ (.int .i64 0)).setCell ⟨w.heap.size+1+1+1,0,none⟩ (.slice a1' n1' c1')).setCell ⟨w.heap.size+1+1+1,1,none⟩ (.slice a2' n2' c2')).setCell ⟨w.heap.size+1+1+1,2,none⟩ (.int .i64 y.left)).setCell ⟨w.heap.size+1+1+1,3,none⟩ (.bool y.stopped))=wz at *
     refine df 5 kr rfl rfl ?_
     go_simp
     refine jx kr ?_
     obtain⟨_,f0,f1,f2,f3,_,_⟩:=aF (Below.refl _ wz) R4.out
     obtain⟨_,g0,g1,g2,_,_,_,_⟩:=aJ (Below.refl _ wz) R3.out
     have HNE:=aa hn0
     clear hn0 hn1' hn2'
     go_wp2
     refine bodyPost_ret (by simp[results,Tryz.results18,go_sem,f0,f1,f2,f3,g0,g1,g2];try rfl) rfl ?_
     refine⟨?_,R5.out⟩
     have hne:j.synced≠j.recs.length:=by rw[SY.out,HLEN.out];omega
     have h0:bB (cz d.secs+1) d (au (j.recs.take j.synced.toNat)) (j.recs.drop j.synced.toNat)=x:=by
      rw[SY.out,Int.toNat_natCast,GH.out,<-HA.out,<-HP.out,HXX.out]
     rw[oS HOK.out HDK.out HST.out H4.out (by
      rw[SY.out,Int.toNat_natCast,HREC.out,GH.out]
      rintro(h1|h1)
      ·exact h1 rfl
      ·omega) hne h0 HSY.out HNE.out]
     exact⟨none,0,0,_,_,_,_,_,_,rfl,iB wz,R6.out⟩
theorem jsync_b (a:Option Addr)(n c:Nat)(j:am)(a1:Option Addr)(n1 c1:Nat)(a2:Option Addr)(n2 c2:Nat)(d:aj)(w:World)(hNz:Nz<=w.heap.size)(hn1:d.okB=true->n1<=100)(h:cg Nz w a n c j)(hD:bF Nz w a1 n1 c1 a2 n2 c2 d) :
  Calls Tryz.prog 18 #[.agg #[.slice a n c,.int .i64 j.many,.int .i64 j.synced],.agg #[.slice a1 n1 c1,.slice a2 n2 c2,.int .i64 d.left,.bool d.stopped]] w fun e w'=>eG Nz e w' (cC j d)/\Below w.heap.size w w':=by
 have H:=aa h
 have HD:=aa hD
 have hnm:=h.m
 have m1:=hD.m1
 have m2:=hD.m2
 unfold maxLen at m1 m2
 clear h hD
 go_enter Tryz.func18,Tryz.ntmps18
 go_wp2_with fail
 refine(iL _ _ _ j _ (H.out.below ?hb)).mono ?_
 case hb=>go_grown
 rintro e w1 ⟨rfl,hB⟩
 have hx0:w1.heap[w.heap.size]? = some (.cells #[.slice a n c,.int .i64 j.many,.int .i64 j.synced] 24 (0,0)):=(hB.block _ (by simp;omega)).trans (aB _ (aB _ (aB _ (ak _ rfl))))
 have hx1:w1.heap[w.heap.size+1]? = some (.cells #[.slice a1 n1 c1,.slice a2 n2 c2,.int .i64 d.left,.bool d.stopped] 27 (0,0)):=(hB.block _ (by simp<;>omega)).trans (aB _ (aB _ (ak _ (by simp))))
 have hx2:w1.heap[w.heap.size+1+1]? = some (.cells #[.slice none 0 0,.int .i64 0,.int .i64 0] 24 (0,0)):=(hB.block _ (by simp<;>omega)).trans (aB _ (ak _ (by simp)))
 have hx3:w1.heap[w.heap.size+1+1+1]? = some (.cells zK 27 (0,0)):=(hB.block _ (by simp)).trans (ak _ (by simp))
 have hB1:Below w.heap.size w w1:=Below.trans (by go_grown) (hB.mono (by simp;omega))
 have hs1:=hB1.size
 obtain⟨hl2,r0,r1,r2,⟨i0,i1,i2⟩,y0,y1,y2⟩:=aJ (Below.refl _ w1) hx2
 obtain⟨hl3,t0,t1,t2,t3,⟨k0,k1,k2,k3⟩,z0,z1,z2,z3⟩:=aF (Below.refl _ w1) hx3
 obtain⟨_,f0,f1,f2,f3,_,_⟩:=aF (Below.refl _ w1) hx1
 have HX0:=aa hx0
 have HX1:=aa hx1
 have HX2:=aa hx2
 have HX3:=aa hx3
 clear hB hx0 hx1 hx2 hx3
 cases hok:j.okB
 ·have HN:=aa (uT (d:=d) hok)
  rw[show j.check=1 by simp[am.check,hok]]
  clear hok f0 f1 f2 f3
  go_wp2
  refine bodyPost_ret (by simp[results,Tryz.results18,go_sem,r0,r1,r2,t0,t1,t2,t3];try rfl) rfl ?_
  exact⟨ee HN.out,by go_grown⟩
 rw[show j.check=0 by simp[am.check,hok]]
 obtain⟨p1,p2,p3,p4,p5⟩:=eM hok
 go_wp2_with fail
 refine(gI _ _ _ _ _ _ d _ (HD.out.below hB1)).mono ?_
 rintro e w2 ⟨rfl,hB12⟩
 have hB2:=hB1.trans (hB12.mono hs1)
 have HX0:=aa ((hB12.block _ (lt_of_block HX0.out)).trans HX0.out)
 have HX1:=aa ((hB12.block _ (lt_of_block HX1.out)).trans HX1.out)
 have HX2:=aa ((hB12.block _ (lt_of_block HX2.out)).trans HX2.out)
 have HX3:=aa ((hB12.block _ (lt_of_block HX3.out)).trans HX3.out)
 clear r0 r1 r2 i0 i1 i2 y0 y1 y2 t0 t1 t2 t3 k0 k1 k2 k3 z0 z1 z2 z3 f0 f1 f2 f3 hl2 hl3
 obtain⟨_,r0,r1,r2,⟨i0,i1,i2⟩,y0,y1,y2⟩:=aJ (Below.refl _ w2) HX2.out
 obtain⟨_,t0,t1,t2,t3,⟨k0,k1,k2,k3⟩,z0,z1,z2,z3⟩:=aF (Below.refl _ w2) HX3.out
 obtain⟨_,f0,f1,f2,f3,_,_⟩:=aF (Below.refl _ w2) HX1.out
 obtain⟨_,g0,g1,g2,_,_,_,_⟩:=aJ (Below.refl _ w2) HX0.out
 cases hdk:d.okB
 ·have HN:=aa (uU hok hdk)
  rw[aj.check_bad hdk]
  clear hok hdk f0 f1 f2 f3 g0 g1 g2
  go_wp2
  refine bodyPost_ret (by simp[results,Tryz.results18,go_sem,r0,r1,r2,t0,t1,t2,t3];try rfl) rfl ?_
  exact⟨ee HN.out,by go_grown⟩
 rw[aj.check_ok hdk]
 have HOK:=aa hok
 have HDK:=aa hdk
 have hs2:=hB2.size
 clear hok hdk
 -- stopped,or another number of sectors
 obtain⟨st,hst⟩:=zg d.stopped
 obtain⟨mm,hmm⟩:=zg j.many
 rw[<-hst]at f3
 rw[<-hmm]at g1 p1 p2 p5
 have ST:=aa hst
 have MM:=aa hmm
 have HDL:Hid (d.secs.length=n1):=HD.out.secs.len
 have HPL:Hid (d.pend.length=n2):=HD.out.pend.len
 have HOPEN:Hid (∀W,Below w.heap.size w W->Calls Tryz.prog 23 #[.agg #[.slice a1 n1 c1,.slice a2 n2 c2,.int .i64 d.left,.bool st]] W fun e w'=>eW Nz e w' (ci d).1 (ci d).2/\Below W.heap.size W w'):=fun W hW=>by
  rw[hst]
  exact Eo _ _ _ _ _ _ d W hn1 (HD.out.below hW)
 clear hst hmm
 cases st
 ·by_cases hmn:mm=(n1:Int)
  ·obtain rfl:=hmn
   by_cases hp:n2=0
   ·have HO:=aa (nl HDK.out ST.out.symm (by rw[HPL.out];exact hp))
    have H4:Hid (¬(j.many≠d.secs.length\/0<d.pend.length)):=by
     show ¬_
     rw[<-MM.out,HDL.out,HPL.out]
     omega
    clear hp
    go_wp2_with fail
    refine(HOPEN.out _ hB2).mono ?_
    rintro e w3 ⟨hg,hB23⟩
    rw[HO.out]at hg
    obtain⟨oa,ok',oc,rfl,hJ⟩:=hg
    have hB3:=hB2.trans (hB23.mono hs2)
    have HX0:=aa ((hB23.block _ (lt_of_block HX0.out)).trans HX0.out)
    have HX1:=aa ((hB23.block _ (lt_of_block HX1.out)).trans HX1.out)
    have HX2:=aa ((hB23.block _ (lt_of_block HX2.out)).trans HX2.out)
    have HX3:=aa ((hB23.block _ (lt_of_block HX3.out)).trans HX3.out)
    clear r0 r1 r2 i0 i1 i2 y0 y1 y2 t0 t1 t2 t3 k0 k1 k2 k3 z0 z1 z2 z3 f0 f1 f2 f3 g0 g1 g2
    have hs3:=hB3.size
    go_upto_region 10 with (fail)
    obtain⟨w4,hw4⟩:∃w4,w3.alloc (.cells #[.slice oa ok' oc,.int .i64 (d.secs.length:Int),.int .i64 ((bN d.secs).length:Int)] 24)=w4:=⟨_,rfl⟩
    rw[hw4]
    obtain⟨hB34,hx9⟩:=zx w3 (.slice oa ok' oc) (.int .i64 (d.secs.length:Int)) (.int .i64 ((bN d.secs).length:Int))
    rw[hw4]at hB34 hx9
    have hB4:=hB3.trans (hB34.mono hs3)
    have hs4:=hB4.size
    have HX0:=aa ((hB34.block _ (lt_of_block HX0.out)).trans HX0.out)
    have HX1:=aa ((hB34.block _ (lt_of_block HX1.out)).trans HX1.out)
    have HX2:=aa ((hB34.block _ (lt_of_block HX2.out)).trans HX2.out)
    have HX3:=aa ((hB34.block _ (lt_of_block HX3.out)).trans HX3.out)
    clear hw4
    obtain⟨hl2,r0,r1,r2,⟨i0,i1,i2⟩,y0,y1,y2⟩:=aJ (Below.refl _ w4) HX2.out
    obtain⟨hl3,t0,t1,t2,t3,⟨k0,k1,k2,k3⟩,z0,z1,z2,z3⟩:=aF (Below.refl _ w4) HX3.out
    obtain⟨_,f0,f1,f2,f3,_,_⟩:=aF (Below.refl _ w4) HX1.out
    obtain⟨_,g0,g1,g2,_,_,_,_⟩:=aJ (Below.refl _ w4) HX0.out
    have HJ:=aa hJ
    clear hJ
    go_wp2_with fail
    obtain⟨wo,rfl⟩:∃wo:World,wo=w4:=⟨_,rfl⟩
    have HX9:=aa hx9
    have HS:=aa (HD.out.below hB4).secs
    have H128:=aa (iT HDK.out)
    clear hx9 f0 f1 f2 f3 g0 g1 g2 r0 r1 r2 i0 i1 i2 y0 y1 y2 t0 t1 t2 t3 k0 k1 k2 k3 z0 z1 z2 z3 HOPEN
    go_loopw [10,59] (fun s10 s59 wr=>∃k:Nat,k<=n1/\s59=.int .i64 k/\s10=.int .u64 ((cz (d.secs.take k)+1:Nat):Int)/\Below wo.heap.size wo wr) (fun _ s59 _=>n1-(intOf s59).toNat)
    case atStart=>exact⟨0,Nat.zero_le _,rfl,rfl,Below.refl _ _⟩
    case round =>
     obtain⟨k,hk,rfl,rfl,hBr⟩:=hrel
     by_cases hlt:k<n1
     ·obtain⟨s,hx⟩:=av HDL.out hlt
      obtain⟨b0,off,f,o,xc,rfl,hcell,hxc,hss⟩:=pf (HS.out.below aN.keeps hBr) H128.out hx
      have hsl:s.length=128:=hss.len
      have hts:=xt d.secs k s hx
      have htl:=tM (l:=d.secs.take k) (fun b hb=>H128.out b (List.mem_of_mem_take hb))
      obtain⟨u,hu⟩:=zg (cz (d.secs.take k))
      obtain⟨gs,hgs⟩:=zg (bH s)
      obtain⟨ts,hts2⟩:=zg (cQ s)
      have hgl:gs<4294967296:=by rw[hgs];exact tt hsl
      have htl2:ts<4294967296:=by rw[hts2];exact rO hsl
      have A0:Hid (∀(c':Nat) z,Calls Tryz.prog 46 #[.slice (some ⟨f,o,none⟩) 4 c'] (wr.drewN z) fun e w'=>e=.returned (.int .u64 gs)/\w'=wr.drewN z):=fun c' z=>by
       rw[hgs]
       exact(iS _ 4 c' (s.take 4) _ om (gQ (hss.below ai.keeps (below_drewN (Below.refl _ wr) z)) 0 4 om)).mono fun _ _ ⟨h1,h2⟩=>⟨h1,h2.symm⟩
      have A1:Hid (∀(c':Nat) z,Calls Tryz.prog 46 #[.slice (some ⟨f,o+124,none⟩) 4 c'] (wr.drewN z) fun e w'=>e=.returned (.int .u64 ts)/\w'=wr.drewN z):=fun c' z=>by
       have h1:(s.drop 124).take 4=s.drop 124:=List.take_of_length_le (by simp;omega)
       rw[hts2,cQ,<-h1]
       exact(iS _ 4 c' _ _ om (gQ (hss.below ai.keeps (below_drewN (Below.refl _ wr) z)) 124 4 om)).mono fun _ _ ⟨h1,h2⟩=>⟨h1,h2.symm⟩
      rw[<-hu]at hts htl ⊢
      rw[<-hgs,<-hts2]at hts
      have HT:=aa hts
      have k0:(0:Int)<=(k:Int):=om
      have k1:(k:Int)<(n1:Int):=om
      have hwg:IntKind.u64.wrap ((gs:Int)+1)=(gs:Int)+1:=by rw[IntKind.wrap_u64];omega
      have hwt:IntKind.u64.wrap ((ts:Int)+1)=(ts:Int)+1:=by rw[IntKind.wrap_u64];omega
      clear hx hss hsl hts hgs hts2 hu
      go_wp2_with fail
      go_quiet ((go_at_call 46;first|with_reducible exact Calls.quiet_of_same (A0.out _ _)|with_reducible exact Calls.quiet_of_same (A1.out _ _)))
      go_wp2
      exact⟨⟨k+1,om,by go_num,by rw[HT.out];congr 1;(repeat' split)<;>omega,below_drewN hBr nq⟩,by simp[intOf];omega⟩
     ·obtain rfl:k=n1:=om
      rw[List.take_of_length_le (by have:=HDL.out;omega)]
      have htl:=tM H128.out
      obtain⟨G,hG⟩:=zg (cz d.secs+1)
      rw[<-hG]
      have GH:=aa hG
      have hB5:=hB4.trans (hBr.mono hs4)
      have HX0:=aa ((hBr.block _ (lt_of_block HX0.out)).trans HX0.out)
      have HX1:=aa ((hBr.block _ (lt_of_block HX1.out)).trans HX1.out)
      have HX2:=aa ((hBr.block _ (lt_of_block HX2.out)).trans HX2.out)
      have HX3:=aa ((hBr.block _ (lt_of_block HX3.out)).trans HX3.out)
      have HX9:=aa ((hBr.block _ (lt_of_block HX9.out)).trans HX9.out)
      obtain⟨_,g0,g1,g2,_,_,_,_⟩:=aJ (Below.refl _ wr) HX0.out
      obtain⟨_,e0,e1,e2,_,_,_,_⟩:=aJ (Below.refl _ wr) HX9.out
      obtain⟨sy,hsy⟩:=Int.eq_ofNat_of_zero_le p3
      have hsn:sy<=n:=by
       have e1:j.recs.length=n:=H.out.recs.len
       omega
      rw[hsy]at g2
      have SY:=aa hsy
      have hGl:G<=4294967296:=om
      have H72:Hid (∀z,Calls Tryz.prog 47 #[.slice oa ok' oc,.slice a sy c,.func (.func 48) #[] #[]] (wr.drewN z) fun e w'=>e=.returned (.bool (decide (bN d.secs=j.recs.take sy)))/\w'=wr.drewN z):=fun z=>by
       have hW3:Below w3.heap.size w3 (wr.drewN z):=below_drewN (hB34.trans (hBr.mono hB34.size)) z
       exact(vN _ _ _ _ _ _ _ _ _ (by have:=HJ.out.m;omega) (HJ.out.recs.below aN.keeps hW3) (nE (H.out.recs.below aN.keeps (below_drewN hB5 z)) hsn) (by unfold maxLen;omega)).mono fun _ _ ⟨h1,h2⟩=>⟨h1,h2.symm⟩
      have s1:(0:Int)<=(sy:Int):=om
      have hcn:=H.out.k
      have s2:(sy:Int)<=(c:Int):=om
      clear hG hsy htl
      obtain⟨_,r0,r1,r2,⟨i0,i1,i2⟩,y0,y1,y2⟩:=aJ (Below.refl _ wr) HX2.out
      obtain⟨_,t0,t1,t2,t3,⟨k0,k1,k2,k3⟩,z0,z1,z2,z3⟩:=aF (Below.refl _ wr) HX3.out
      go_upto_region 18 with (fail)
      go_cut [87] (fun s87 wx=>s87=.bool (!(decide (bN d.secs=j.recs.take sy) && decide (G<=4294967295)))/\∃z,wx=wr.drewN z)
      case first =>
       refine wp_region_quiet_lit kr kr ?_
       cases hsm:decide (bN d.secs=j.recs.take sy)
       ·rw[hsm]at H72
        have HSM:=aa hsm
        clear hsm
        repeat (go_big_quiet_step ((go_at_call 47;with_reducible exact Calls.quiet_of_same (H72.out _))))
        refine wpQuiet_nil ?_
        intro _ ⟨nq,hnq⟩
        subst hnq
        go_wp2
        go_meet
        exact⟨by rw[HSM.out];rfl,nq,rfl⟩
       ·rw[hsm]at H72
        have HSM:=aa hsm
        clear hsm
        by_cases hg:G=4294967296
        ·have v1:(G:Int)/4294967296=1:=om
         have v2:(G:Int)/2 ^ 32=1:=om
         have HG:=aa hg
         clear hg
         repeat (go_big_quiet_step ((go_at_call 47;with_reducible exact Calls.quiet_of_same (H72.out _))))
         refine wpQuiet_nil ?_
         intro _ ⟨nq,hnq⟩
         subst hnq
         go_wp2
         go_meet
         exact⟨by rw[HG.out,HSM.out];rfl,nq,rfl⟩
        ·have v1:(G:Int)/4294967296=0:=om
         have v2:(G:Int)/2 ^ 32=0:=om
         have HG:Hid (G<=4294967295):=by show _<=_;omega
         clear hg
         repeat (go_big_quiet_step ((go_at_call 47;with_reducible exact Calls.quiet_of_same (H72.out _))))
         refine wpQuiet_nil ?_
         intro _ ⟨nq,hnq⟩
         subst hnq
         go_wp2
         go_meet
         exact⟨by rw[decide_eq_true HG.out,HSM.out];rfl,nq,rfl⟩
      case rest =>
      obtain⟨rfl,zq,hzq⟩:=hcut
      obtain⟨w5,hw5⟩:=zg wc
      rw[<-hw5]at hzq ⊢
      have hB6:Below wr.heap.size wr w5:=by rw[hzq];exact below_drewN (Below.refl _ wr) zq
      have hs5:=hB5.size
      have hB7:Below w.heap.size w w5:=hB5.trans (hB6.mono hs5)
      have HX0:=aa ((hB6.block _ (lt_of_block HX0.out)).trans HX0.out)
      have HX1:=aa ((hB6.block _ (lt_of_block HX1.out)).trans HX1.out)
      have HX2:=aa ((hB6.block _ (lt_of_block HX2.out)).trans HX2.out)
      have HX3:=aa ((hB6.block _ (lt_of_block HX3.out)).trans HX3.out)
      clear hw5 hzq H72 HX9 e0 e1 e2 g0 g1 g2 r0 r1 r2 i0 i1 i2 y0 y1 y2 t0 t1 t2 t3 k0 k1 k2 k3 z0 z1 z2 z3
      obtain⟨_,g0,g1,g2,_,_,_,_⟩:=aJ (Below.refl _ w5) HX0.out
      obtain⟨_,f0,f1,f2,f3,_,_⟩:=aF (Below.refl _ w5) HX1.out
      obtain⟨_,r0,r1,r2,⟨i0,i1,i2⟩,y0,y1,y2⟩:=aJ (Below.refl _ w5) HX2.out
      obtain⟨_,t0,t1,t2,t3,⟨k0,k1,k2,k3⟩,z0,z1,z2,z3⟩:=aF (Below.refl _ w5) HX3.out
      cases hgo:(decide (bN d.secs=j.recs.take sy) && decide (G<=4294967295))
      ·have HN:=aa (xA HOK.out HDK.out ST.out.symm H4.out (by
        rw[SY.out,Int.toNat_natCast,<-GH.out]
        simp only[Bool.and_eq_false_iff,decide_eq_false_iff_not]at hgo
        rcases hgo with h5|h5
        ·exact .inl h5
        ·exact .inr om))
       clear hgo
       go_wp2
       refine bodyPost_ret (by simp[results,Tryz.results18,go_sem,r0,r1,r2,t0,t1,t2,t3];try rfl) rfl ?_
       exact⟨ee HN.out,by go_grown⟩
      ·have HGO:=aa hgo
       have hx0':=HX0.out
       rw[SY.out]at hx0'
       clear hgo g0 g1 g2 f0 f1 f2 f3 r0 r1 r2 i0 i1 i2 y0 y1 y2 t0 t1 t2 t3 k0 k1 k2 k3 z0 z1 z2 z3
       iterate 5 go_step
       have hb:=HGO.out
       simp only[Bool.and_eq_true,decide_eq_true_eq]at hb
       exact tg a n c j a1 k c1 a2 n2 c2 d w w5 sy G hNz H.out hsn ⟨hB7,hx0',HX1.out,HX2.out,HX3.out,HD.out.below hB7⟩ (by rw[HDL.out];exact hn1 HDK.out) HOK.out HDK.out ST.out.symm H4.out SY.out GH.out.symm hb.2 hb.1
   ·have HO:=aa (nZ HDK.out ST.out.symm (by rw[HPL.out];omega))
    have HN:=aa (oP (j:=j) HOK.out HDK.out ST.out.symm (.inr (by rw[HPL.out];omega)))
    go_wp2_with fail
    refine(HOPEN.out _ hB2).mono ?_
    rintro e w3 ⟨hg,hB23⟩
    rw[HO.out]at hg
    obtain⟨oa,ok',oc,rfl,hJ⟩:=hg
    have hB3:=hB2.trans (hB23.mono hs2)
    have HX0:=aa ((hB23.block _ (lt_of_block HX0.out)).trans HX0.out)
    have HX1:=aa ((hB23.block _ (lt_of_block HX1.out)).trans HX1.out)
    have HX2:=aa ((hB23.block _ (lt_of_block HX2.out)).trans HX2.out)
    have HX3:=aa ((hB23.block _ (lt_of_block HX3.out)).trans HX3.out)
    clear r0 r1 r2 i0 i1 i2 y0 y1 y2 t0 t1 t2 t3 k0 k1 k2 k3 z0 z1 z2 z3 f0 f1 f2 f3 g0 g1 g2
    have hs3:=hB3.size
    go_upto_region 10 with (fail)
    obtain⟨w4,hw4⟩:∃w4,w3.alloc (.cells #[.slice oa ok' oc,.int .i64 am.zero.many,.int .i64 am.zero.synced] 24)=w4:=⟨_,rfl⟩
    rw[hw4]
    obtain⟨hB34,hx9⟩:=zx w3 (.slice oa ok' oc) (.int .i64 am.zero.many) (.int .i64 am.zero.synced)
    rw[hw4]at hB34 hx9
    have hB4:=hB3.trans (hB34.mono hs3)
    have hs4:=hB4.size
    have HX0:=aa ((hB34.block _ (lt_of_block HX0.out)).trans HX0.out)
    have HX1:=aa ((hB34.block _ (lt_of_block HX1.out)).trans HX1.out)
    have HX2:=aa ((hB34.block _ (lt_of_block HX2.out)).trans HX2.out)
    have HX3:=aa ((hB34.block _ (lt_of_block HX3.out)).trans HX3.out)
    clear hw4
    obtain⟨hl2,r0,r1,r2,⟨i0,i1,i2⟩,y0,y1,y2⟩:=aJ (Below.refl _ w4) HX2.out
    obtain⟨hl3,t0,t1,t2,t3,⟨k0,k1,k2,k3⟩,z0,z1,z2,z3⟩:=aF (Below.refl _ w4) HX3.out
    go_wp2
    refine bodyPost_ret (by simp[results,Tryz.results18,go_sem,r0,r1,r2,t0,t1,t2,t3];try rfl) rfl ?_
    exact⟨ee HN.out,by go_grown⟩
  ·have HN:=aa (oP HOK.out HDK.out ST.out.symm (.inl (by rw[<-MM.out,HDL.out];exact hmn)))
   have q1:(mm == (n1:Int))=false:=by simpa using hmn
   have q2:(mm != (n1:Int))=true:=by simpa using hmn
   clear hmn
   go_wp2
   refine bodyPost_ret (by simp[results,Tryz.results18,go_sem,r0,r1,r2,t0,t1,t2,t3];try rfl) rfl ?_
   exact⟨ee HN.out,by go_grown⟩
 ·have HN:=aa (qz HOK.out HDK.out ST.out.symm)
  have HO:=aa (lh HDK.out ST.out.symm)
  by_cases hmn:mm=(n1:Int)
  all_goals
   go_wp2_with fail
   refine(HOPEN.out _ hB2).mono ?_
   rintro e w3 ⟨hg,hB23⟩
   rw[HO.out]at hg
   obtain⟨oa,ok',oc,rfl,hJ⟩:=hg
   have hB3:=hB2.trans (hB23.mono hs2)
   have HX0:=aa ((hB23.block _ (lt_of_block HX0.out)).trans HX0.out)
   have HX1:=aa ((hB23.block _ (lt_of_block HX1.out)).trans HX1.out)
   have HX2:=aa ((hB23.block _ (lt_of_block HX2.out)).trans HX2.out)
   have HX3:=aa ((hB23.block _ (lt_of_block HX3.out)).trans HX3.out)
   clear r0 r1 r2 i0 i1 i2 y0 y1 y2 t0 t1 t2 t3 k0 k1 k2 k3 z0 z1 z2 z3 f0 f1 f2 f3 g0 g1 g2
   have hs3:=hB3.size
   go_upto_region 10 with (fail)
   obtain⟨w4,hw4⟩:∃w4,w3.alloc (.cells #[.slice oa ok' oc,.int .i64 am.zero.many,.int .i64 am.zero.synced] 24)=w4:=⟨_,rfl⟩
   rw[hw4]
   obtain⟨hB34,hx9⟩:=zx w3 (.slice oa ok' oc) (.int .i64 am.zero.many) (.int .i64 am.zero.synced)
   rw[hw4]at hB34 hx9
   have hB4:=hB3.trans (hB34.mono hs3)
   have hs4:=hB4.size
   have HX0:=aa ((hB34.block _ (lt_of_block HX0.out)).trans HX0.out)
   have HX1:=aa ((hB34.block _ (lt_of_block HX1.out)).trans HX1.out)
   have HX2:=aa ((hB34.block _ (lt_of_block HX2.out)).trans HX2.out)
   have HX3:=aa ((hB34.block _ (lt_of_block HX3.out)).trans HX3.out)
   clear hw4
   obtain⟨hl2,r0,r1,r2,⟨i0,i1,i2⟩,y0,y1,y2⟩:=aJ (Below.refl _ w4) HX2.out
   obtain⟨hl3,t0,t1,t2,t3,⟨k0,k1,k2,k3⟩,z0,z1,z2,z3⟩:=aF (Below.refl _ w4) HX3.out
   go_wp2
   refine bodyPost_ret (by simp[results,Tryz.results18,go_sem,r0,r1,r2,t0,t1,t2,t3];try rfl) rfl ?_
   exact⟨ee HN.out,by go_grown⟩
end Go.Proofs.YtmflnpdmlfmcpaaGreatDoor
