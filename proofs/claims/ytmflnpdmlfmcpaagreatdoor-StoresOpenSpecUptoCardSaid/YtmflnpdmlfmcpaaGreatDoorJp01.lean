/- Joined texts. -/
import Derived.Test.YtmflnpdmlfmcpaaGreatDoorJp00
import Derived.Deep.Cut
import Derived.Deep.DeepCutAuto
set_option maxRecDepth 100000
set_option maxHeartbeats 4000000
namespace Go.Proofs.YtmflnpdmlfmcpaaGreatDoor
open Go.RowKit
variable {Nz : Nat}
def tq (b:Bool):Nat:=if b then 1 else 0
def dg (b e:Bool):Nat:=(if b then 1 else 0)+(if e then 2 else 0)
theorem nV (a b:List UInt8):af (a++b)=af a++af b:=by simp[af]
theorem Dc (k kind:Nat)(l:List UInt8)(hk:kind<256)(hl:l.length<=112):af (bD k 2)++[.int .u8 kind,.int .u8 l.length]++af l++List.replicate (112-l.length) (.int .u8 0)=af (eh k kind l):=by
 have h2:(UInt8.ofNat kind).toNat=kind:=by rw[UInt8.toNat_ofNat'];omega
 have h3:(UInt8.ofNat l.length).toNat=l.length:=by rw[UInt8.toNat_ofNat'];omega
 simp[eh,af,h2,h3]
theorem Do (g k:Nat)(bg en:Bool)(a:Option Addr)(n c:Nat)(l:List UInt8)(w:World)(hg:g<18446744073709551616)(hk:k<65536)(hn:n<=112)(h:Sl 1 ai w a n l) :
  Calls Tryz.prog 70 #[.int .u64 g,.int .i64 k,.bool bg,.bool en,.slice a n c] w fun e w'=>(∃v,e=.returned v/\aN Nz w' [v] (eK g k (dg bg en) l))/\Below w.heap.size w w':=by
 have HL:=aa h.len
 have HS:=aa h
 clear h
 have wk:IntKind.u64.wrap (k:Int)=(k:Int):=by rw[IntKind.wrap_u64];omega
 have wn:IntKind.u8.wrap (n:Int)=(n:Int):=by rw[IntKind.wrap_u8];omega
 obtain⟨i0,hi0,hz0,hz1,hz2⟩:=info_parts jv
 obtain⟨kd,hkd⟩:=zg (dg bg en)
 have hkd4:kd<4:=by rw[hkd];cases bg<;>cases en<;>decide
 rw[<-hkd]
 have w01:IntKind.u8.wrap 1=1:=by decide
 have w02:IntKind.u8.wrap 2=2:=by decide
 have w03:IntKind.u8.wrap 3=3:=by decide
 go_enter Tryz.func70,Tryz.ntmps70
 have HK:Hid (kd=dg bg en):=hkd
 clear hkd
 have HN:Hid (∀W,Below w.heap.size w W->(af l).length=n*1/\(a=none->n=0)/\(∀ad,a=some ad->∀j u,(af l)[j]? = some u->W.cell? (ad.add j)=some u)/\(∀u ∈ af l,u.oneCell'=true)):=fun W hW=>bV (HS.out.below ai.keeps hW)
 have zInt:Value.int .i64 (112-(n:Int))=.int .i64 ((112-n:Nat):Int):=by congr 1;omega
 have ZINT:=aa zInt
 clear zInt
 go_upto_if 14 with (fail)
 go_cut [11] (fun s11 wx=>s11=.int .u8 ((tq bg:Nat):Int)/\w=wx)
 case first =>
  cases bg
  all_goals
   go_wp2
   go_meet
   exact⟨rfl,rfl⟩
 case rest =>
 obtain⟨rfl,rfl⟩:=hcut
 go_upto_if 17 with (fail)
 go_cut [11] (fun s11 wx=>s11=.int .u8 kd/\w=wx)
 case first =>
  have HK2:=HK.out
  cases bg<;>cases en
  all_goals
   simp only[dg]at HK2
   subst HK2
   go_wp2
   go_meet
   exact⟨rfl,rfl⟩
 case rest =>
 obtain⟨rfl,rfl⟩:=hcut
 go_wp2_with fail
 refine(it k 2 _ om om om).mono ?_
 rintro e w1 ⟨rfl,hr1,hB1⟩
 have O1:=aa (C5 (base:=w.heap.size) 2 hr1 (Nat.le_refl _) (by simp[af,bo]) (by unfold maxLen;omega))
 clear hr1
 have hs1:=hB1.size
 go_upto_region 7 with (at_builtin;refine aD rfl (.tmp 22) (.tmp 27) 40 rfl w.heap.size 5 i0 (.int .u8 0) 1 1 Tryz.underlying40 hi0 hz0 hz1 hz2 rfl (by decide) (.slice (some ⟨w.heap.size,0,none⟩) 2 2) 2 (af (bD k 2)) rfl (O1.out.alloc _) (some ⟨w1.heap.size,0,none⟩) 2 2 [.int .u8 kd,.int .u8 n] rfl rfl ?p0 ?p1 ?p2 ?p3 ?p4 ?p5 ?_;rotate_right;intro a2 c2 w2 hown hgrow)
 case p0=>rintro⟨⟩
 case p1 =>
  rintro ad ⟨⟩ j u hu
  rw[Addr.add_lit,Nat.zero_add,dz _ _ rfl]
  have:=HK.out
  simp only[dg]at this
  subst this
  simpa using hu
 case p2=>simp[Value.oneCell']
 case p3=>unfold maxLen;omega
 case p4=>omega
 case p5=>simp;omega
 have hB2:Below w.heap.size w w2:=((hB1.alloc om _).grown hgrow (by simp;omega) (fun q hq=>by simp[Value.ownBlock]at hq;omega))
 have O2:=aa hown
 have hs2:=hB2.size
 clear hown hgrow O1 hB1 hs1
 obtain⟨n1,n2,n3,n4⟩:=HN.out w2 hB2
 have N1:=aa n1
 have N2:=aa n2
 have N3:=aa n3
 have N4:=aa n4
 clear n1 n2 n3 n4
 go_upto_region 8 with (at_builtin;refine aD rfl (.tmp 29) (.tmp 30) 40 rfl w.heap.size 5 i0 (.int .u8 0) 1 1 Tryz.underlying40 hi0 hz0 hz1 hz2 rfl (by decide) (.slice a2 4 c2) 4 (af (bD k 2)++[.int .u8 kd,.int .u8 n]) rfl O2.out a n c (af l) rfl N1.out N2.out N3.out N4.out ?p6 ?p7 ?p8 ?_;rotate_right;intro a3 c3 w3 hown hgrow)
 case p6=>unfold maxLen;omega
 case p7=>omega
 case p8=>omega
 have hB3:Below w.heap.size w w3:=hB2.grown hgrow om (fun q hq=>(O2.out.lt q hq).1)
 have O3:=aa hown
 have hs3:=hB3.size
 clear hown hgrow O2 hB2 hs2 N1 N2 N3 N4
 go_upto_region 9 with (at_builtin;refine jt rfl (.tmp 32) (.tmp 35) 40 3 rfl w.heap.size 5 i0 (.int .u8 0) 1 .i64 .i64 Tryz.underlying40 Tryz.underlying3 hi0 hz0 hz1 hz2 rfl rfl (.slice a3 (4+n) c3) (4+n) (af (bD k 2)++[.int .u8 kd,.int .u8 n]++af l) rfl O3.out (112-n) ?p9 ?q0 ?q1 ?q2 ?_;rotate_right;intro a4 c4 w4 hown hgrow)
 case p9=>exact ZINT.out
 case q0=>unfold maxLen;omega
 case q1=>omega
 case q2=>omega
 have hB4:Below w.heap.size w w4:=hB3.grown hgrow om (fun q hq=>(O3.out.lt q hq).1)
 have hown:w4.ownsRow w.heap.size 5 1 (.slice a4 116 c4) 116 (af (eh k kd l)):=by
  rw[<-Dc k kd l om (by rw[HL.out];exact hn),HL.out]
  rw[show 4+n+(112-n)=116 by omega]at hown
  exact hown
 have hsize:(4+n+(112-n):Nat)=116:=om
 rw[hsize]
 have O4:=aa hown
 have hs4:=hB4.size
 obtain⟨xa,xn,xc,hv,x1,x2,x3,x4⟩:=i4 (Nz:=Nz) hown
 simp only[List.cons.injEq,Value.slice.injEq,and_true]at hv
 obtain⟨rfl,rfl,rfl⟩:=hv
 have X3:=aa x3
 clear hown hgrow O3 hB3 hs3 hsize x1 x2 x3 x4
 have hl:l.length<=112:=by rw[HL.out];exact hn
 have hcl:=Ae (eh k kd l)
 obtain⟨s,hs⟩:=zg (ne (eh k kd l))
 have hsl:s<4294967296:=by rw[hs];exact hcl
 have H89:Hid (∀W,Below w4.heap.size w4 W->Calls Tryz.prog 107 #[.slice a4 116 c4] W fun e w'=>e=.returned (.int .u32 s)/\W=w'):=fun W hW=>by
  rw[hs]
  exact Dh _ _ _ _ W om (X3.out.below ai.keeps hW)
 have ws:IntKind.u64.wrap (s:Int)=(s:Int):=by rw[IntKind.wrap_u64];omega
 have SS:=aa hs
 clear hcl hs hl
 go_wp2_with fail
 refine(it g 4 _ hg om om).mono ?_
 rintro e w5 ⟨rfl,hr5,hB5⟩
 have HR5:=aa hr5
 have hs5:=hB5.size
 have hl5:w4.heap.size<w5.heap.size:=HR5.out.lt
 clear hr5
 go_wp2_with fail
 refine(H89.out _ hB5).mono ?_
 rintro e w' ⟨rfl,rfl⟩
 go_wp2_with fail
 refine(it s 4 _ om om om).mono ?_
 rintro e w6 ⟨rfl,hr6,hB6⟩
 have HR6:=aa hr6
 have hs6:=hB6.size
 have O6:=aa (C5 (base:=w4.heap.size) 4 (HR5.out.below hB6 hl5) (Nat.le_refl _) (by simp[af,bo]) (by unfold maxLen;omega))
 have hB6':Below w4.heap.size w4 w6:=hB5.trans (hB6.mono hs5)
 clear hr6
 go_upto_region 10 with (at_builtin;refine aD rfl (.tmp 38) (.tmp 42) 40 rfl w4.heap.size 5 i0 (.int .u8 0) 1 1 Tryz.underlying40 hi0 hz0 hz1 hz2 rfl (by decide) (.slice (some ⟨w4.heap.size,0,none⟩) 4 4) 4 (af (bD g 4)) rfl O6.out (some ⟨w5.heap.size,0,none⟩) 4 4 (af (bD s 4)) rfl ?r0 ?r1 ?r2 ?r3 ?r4 ?r5 ?r6 ?_;rotate_right;intro a7 c7 w7 hown hgrow)
 case r0=>simp[af,bo]
 case r1=>rintro⟨⟩
 case r2 =>
  rintro ad ⟨⟩ j u hu
  rw[Addr.add_lit,Nat.zero_add,ac.cell HR6.out,hu]
 case r3 =>
  intro u hu
  obtain⟨x,_,rfl⟩:=List.mem_map.1 hu
  rfl
 case r4=>unfold maxLen;omega
 case r5=>omega
 case r6=>omega
 have hB7:Below w4.heap.size w4 w7:=hB6'.grown hgrow om (fun q hq=>(O6.out.lt q hq).1)
 have O7:=aa hown
 have hs7:=hB7.size
 obtain⟨n1,n2,n3,n4⟩:=bV (X3.out.below ai.keeps hB7)
 have N1:=aa n1
 have N2:=aa n2
 have N3:=aa n3
 have N4:=aa n4
 clear hown hgrow O6 hB6 hB6' hs6 HR6 HR5 hB5 hs5 hl5 n1 n2 n3 n4
 go_wp2_with (first
  | (go_at_call 106;refine(it g 4 _ hg om om).mono ?_;rintro e w9 ⟨rfl,hr9,hB9⟩;have HR9:=aa hr9;have hs9:=hB9.size;have O9:=aa (O8.out.kept (w':=w9) (row:=none) ⟨hB9.os,hB9.tape,hB9.output,hB9.size,fun q hq _=>hB9.block q hq⟩ (by cases (Value.slice a8 124 c8).ownBlock<;>simp));have hB9':=hB8.trans (hB9.mono hs8);clear hr9 hB9)
  | (at_builtin;refine aD rfl (.tmp 44) (.tmp 45) 40 rfl w4.heap.size 5 i0 (.int .u8 0) 1 1 Tryz.underlying40 hi0 hz0 hz1 hz2 rfl (by decide) (.slice a7 8 c7) 8 (af (bD g 4)++af (bD s 4)) rfl O7.out a4 116 c4 (af (eh k kd l)) rfl N1.out N2.out N3.out N4.out ?t0 ?t1 ?t2 ?_;rotate_right;intro a8 c8 w8 hown hgrow;have hB8:Below w4.heap.size w4 w8:=hB7.grown hgrow hs7 (fun q hq=>(O7.out.lt q hq).1);have O8:=aa hown;have hs8:=hB8.size;clear hown hgrow)
  | (at_builtin;refine aD rfl (.tmp 46) (.tmp 48) 40 rfl w4.heap.size 5 i0 (.int .u8 0) 1 1 Tryz.underlying40 hi0 hz0 hz1 hz2 rfl (by decide) (.slice a8 124 c8) 124 (af (bD g 4)++af (bD s 4)++af (eh k kd l)) rfl O9.out (some ⟨w8.heap.size,0,none⟩) 4 4 (af (bD g 4)) rfl ?u0 ?u1 ?u2 ?u3 ?u4 ?u5 ?u6 ?_;rotate_right;intro aA cA wA hown hgrow;have hBA:Below w4.heap.size w4 wA:=hB9'.grown hgrow om (fun q hq=>(O9.out.lt q hq).1);have OA:=aa hown;clear hown hgrow))
 case u0=>simp[af,bo]
 case u1=>rintro⟨⟩
 case u2 =>
  rintro ad ⟨⟩ j u hu
  rw[Addr.add_lit,Nat.zero_add,ac.cell HR9.out,hu]
 case u3 =>
  intro u hu
  obtain⟨x,_,rfl⟩:=List.mem_map.1 hu
  rfl
 case u4=>unfold maxLen;omega
 case u5=>omega
 case u6=>omega
 case t0=>unfold maxLen;omega
 case t1=>omega
 case t2=>omega
 go_ret
 have hfin:af (bD g 4)++af (bD s 4)++af (eh k kd l)++af (bD g 4)=af (eK g k kd l):=by
  rw[SS.out,<-nV,<-nV,<-nV]
  simp[eK]
 have hown:=OA.out
 rw[hfin]at hown
 exact⟨⟨_,rfl,i4 hown⟩,hB4.trans (hBA.mono hs4)⟩
end Go.Proofs.YtmflnpdmlfmcpaaGreatDoor
