/- Joined texts. -/
import Derived.Test.YtmflnpdmlfmcpaaGreatDoorJp12
import Derived.Deep.RegionLaw
import Derived.Deep.CutBlock
import Derived.Deep.MidRow
import Derived.Laws.BytesString
import Derived.ArgAppend
import Derived.TacticsIn
import Derived.OrdersIn
import Derived.Stop.BytesEq
set_option maxRecDepth 100000
set_option maxHeartbeats 8000000
namespace Go.Proofs.YtmflnpdmlfmcpaaGreatDoor.Dr
open Go.RowKit
theorem qX (x:Nat)(h:x<18446744073709551616):bits .xor .u64 (x:Int) 0=(x:Int):=by
 have:=u64_xor_nat x 0 h om
 simpa using this
theorem yF (x:Nat)(h:x<18446744073709551616):x ^^^ 18446744073709551615=18446744073709551615-x:=by
 have h1:=BitVec.toNat_not (x:=BitVec.ofNat 64 x)
 rw[<-BitVec.xor_allOnes,BitVec.toNat_xor,BitVec.toNat_ofNat,BitVec.toNat_allOnes,Nat.mod_eq_of_lt (by simpa using h)]at h1
 simpa using h1
theorem qY (x:Nat)(h:x<18446744073709551616):bits .xor .u64 (x:Int) 18446744073709551615=((18446744073709551615-x:Nat):Int):=by
 have:=u64_xor_nat x 18446744073709551615 h om
 rw[yF x h]at this
 exact this
theorem qZ (n:Int)(w:World)(h1 : -9223372036854775808<=n)(h2:n<=9223372036854775807) :
  Calls Tryz.prog 123 #[.int .i64 n] w fun e w'=>e=.returned (.int .u64 (eA n))/\w=w':=by
 by_cases h0:0<=n
 ·obtain⟨m,rfl⟩:=Int.eq_ofNat_of_zero_le h0
  have e1:(m:Int)/9223372036854775808=0:=om
  have e2:IntKind.u64.wrap (m:Int)=(m:Int):=by rw[IntKind.wrap_u64];omega
  have e3:IntKind.u64.wrap 0=0:=by decide
  have e4:=qX (2*m) om
  have e5:eA (m:Int)=2*m:=by unfold eA;rw[if_pos h0];omega
  have E5:=aa e5
  clear e5
  go_enter Tryz.func123,Tryz.ntmps123
  go_wp2
  go_ret
  refine⟨bY ?_,rfl⟩
  rw[show (m:Int)*2=((2*m:Nat):Int) by omega,e4,E5.out]
 ·obtain⟨m,hm⟩:∃m:Nat,n = -((m:Int)+1):=⟨(-n-1).toNat,om⟩
  have e1:n/9223372036854775808 = -1:=om
  have e2:IntKind.u64.wrap n=n+18446744073709551616:=by rw[IntKind.wrap_u64];omega
  have e3:IntKind.u64.wrap (-1)=18446744073709551615:=by decide
  have e5:eA n=2*m+1:=by unfold eA;rw[if_neg h0];omega
  have e6:(n+18446744073709551616)*2%18446744073709551616=((18446744073709551615-(2*m+1):Nat):Int):=om
  have e4:=qY (18446744073709551615-(2*m+1)) om
  have hmb:m<9223372036854775808:=om
  have E5:=aa e5
  have E4:=aa e4
  have E6:=aa e6
  clear hm e5 e4 e6
  go_enter Tryz.func123,Tryz.ntmps123
  go_wp2
  go_ret
  refine⟨bY ?_,rfl⟩
  rw[show IntKind.u64.wrap ((n+18446744073709551616)*2)=((18446744073709551615-(2*m+1):Nat):Int) by rw[IntKind.wrap_u64];exact E6.out]
  rw[E4.out,E5.out]
  omega
theorem eX {w:World}(x:Value)(t:TypeId):∀ad:Addr,(some ⟨w.heap.size,0,none⟩:Option Addr)=some ad->∀j u,[x][j]? = some u->(w.alloc (.cells #[x] t)).cell? (ad.add j)=some u:=by
 intro ad had j u hu
 cases had
 rw[Addr.add_lit]
 match j,hu with
 | 0,hu =>
  simp only[List.getElem?_cons_zero,Option.some.injEq]at hu
  subst hu
  exact dz #[x] t rfl 0
theorem it (B:Nat)(a:Option Addr)(n c u:Nat)(xs:List Value)(w:World)(hB:B<=w.heap.size)(hn:n<=1000000)(hu:u<18446744073709551616)(hown:w.ownsRow B 5 1 (.slice a n c) n xs) :
  Calls Tryz.prog 122 #[.slice a n c,.int .u64 u] w (qW B w (xs++af (cB u))):=by
 obtain⟨i0,hi0,hz0,hz1,hz2⟩:=eO
 have hlen:=cH hu
 have hxl:xs.length=n:=by simpa using hown.1
 have HOWN:=aa hown
 have HXL:=aa hxl
 clear hown hxl
 go_enter Tryz.func122,Tryz.ntmps122
 go_wp2
 go_loopw [0,1] (fun s0 s1 wr=>∃(d:List UInt8) (v:Nat) (A:Option Addr) (C:Nat),s0=.slice A (n+d.length) C/\s1=.int .u64 v/\v<=u/\cB u=d++cB v/\wr.ownsRow B 5 1 (.slice A (n+d.length) C) (n+d.length) (xs++af d)/\co B w wr) (fun _ s1 _=>(intOf s1).toNat)
 case atStart=>exact⟨[],u,a,c,rfl,rfl,Nat.le_refl _,rfl,by simpa[af] using HOWN.out,co.refl _ _⟩
 case round =>
  clear HOWN
  obtain⟨d,v,A,C,rfl,rfl,hv,hd,hown,hk⟩:=hrel
  obtain⟨m,hm⟩:=zg (n+d.length)
  rw[<-hm]at hown ⊢
  have hml:m<=n+10:=by have:=congrArg List.length hd;rw[List.length_append]at this;omega
  have hz:=Nat.le_trans hB hk.below.size
  have HM:=aa hm
  have HD:=aa hd
  have HOWN:=aa hown
  have HK:=aa hk
  clear hm hd hown hk
  by_cases hge:128<=v
  ·have k1:(128:Int)<=(v:Int):=om
   have w1:IntKind.u8.wrap (v:Int)=(v:Int)%256:=IntKind.wrap_u8' _
   have hb:UInt8.ofNat (v%128+128)=UInt8.ofNat (v%128+128):=rfl
   have w2:bits .or .u8 ((v:Int)%256) 128=((UInt8.ofNat (v%128+128)).toNat:Int):=by
    have q:(v:Int)%256=((v%256:Nat):Int):=om
    have z:=u8_or_nat (v%256) 128 om om
    rw[q]
    refine z.trans ?_
    rw[UInt8.toNat_ofNat']
    have:v%256 ||| 128=v%128+128:=by
     have h1:∀q:Fin 256,q.val ||| 128=q.val%128+128:=by decide +kernel
     have:=h1 ⟨v%256,om⟩
     simp only at this
     omega
    rw[this]
    congr 1
    omega
   have hnl:=jf (show ¬v<128 by omega)
   obtain⟨bt,hbt⟩:=zg (UInt8.ofNat (v%128+128))
   rw[<-hbt]at w2 hnl
   have HNL:=aa hnl
   clear hb hbt hnl
   go_wp2_with (at_builtin;refine aD rfl (.tmp 9) (.tmp 13) 40 rfl B 5 i0 (.int .u8 0) 1 1 Tryz.underlying40 hi0 hz0 hz1 hz2 rfl (by decide) (.slice A m C) m (xs++af d) rfl (HOWN.out.alloc _) (some ⟨wr.heap.size,0,none⟩) 1 1 [.int .u8 bt.toNat] rfl rfl ?p0 (eX _ _) ?p2 ?p3 ?p4 ?p5 ?_;rotate_right;intro va vc w3 hown3 hgrow3)
   case p0=>intro h;cases h
   case p2=>intro q hq;simp only[List.mem_singleton]at hq;subst hq;rfl
   case p3=>unfold maxLen;omega
   case p4=>omega
   case p5=>simp;omega
   have hk3:co B w w3:=(HK.out.alloc hz _).trans (co.of_grown hgrow3 (HOWN.out.alloc _) (by simp;omega))
   go_roundw
   case rel =>
    refine⟨d++[bt],v/128,va,vc,by rw[List.length_append,List.length_singleton,<-Nat.add_assoc,<-HM.out],by first|rfl|go_num,Nat.le_trans (Nat.div_le_self _ _) hv,by rw[HD.out,HNL.out];simp,?_,hk3⟩
    rw[List.length_append,List.length_singleton,<-Nat.add_assoc,<-HM.out]
    simpa[af] using hown3
   case measure=>simp[intOf];omega
  ·have k1:(v:Int)<128:=om
   have w1:IntKind.u8.wrap (v:Int)=((UInt8.ofNat v).toNat:Int):=by
    rw[IntKind.wrap_u8',UInt8.toNat_ofNat'];omega
   have hnl:=gU (show v<128 by omega)
   obtain⟨bt,hbt⟩:=zg (UInt8.ofNat v)
   rw[<-hbt]at w1 hnl
   have HNL:=aa hnl
   clear hbt hnl
   go_wp2_with (at_builtin;refine aD rfl (.tmp 15) (.tmp 18) 40 rfl B 5 i0 (.int .u8 0) 1 1 Tryz.underlying40 hi0 hz0 hz1 hz2 rfl (by decide) (.slice A m C) m (xs++af d) rfl (HOWN.out.alloc _) (some ⟨wr.heap.size,0,none⟩) 1 1 [.int .u8 bt.toNat] rfl rfl ?p0 (eX _ _) ?p2 ?p3 ?p4 ?p5 ?_;rotate_right;intro va vc w3 hown3 hgrow3)
   case p0=>intro h;cases h
   case p2=>intro q hq;simp only[List.mem_singleton]at hq;subst hq;rfl
   case p3=>unfold maxLen;omega
   case p4=>omega
   case p5=>simp;omega
   have hk3:co B w w3:=(HK.out.alloc hz _).trans (co.of_grown hgrow3 (HOWN.out.alloc _) (by simp;omega))
   go_ret
   have hl:(xs++af (cB u)).length=m+1:=by
    rw[HD.out,HNL.out,HM.out]
    simp[af,HXL.out]
    omega
   refine⟨⟨va,vc,by rw[hl];rfl,?_⟩,hk3⟩
   rw[hl,HD.out,HNL.out]
   simpa[af] using hown3
theorem q9 (B:Nat)(a:Option Addr)(n c:Nat)(xs:List Value)(k:Int)(la:Option Addr)(lc:Nat)(w:World)(hB:B<=w.heap.size)(hn:n<=900000)(h1 : -9223372036854775808<=k)(h2:k<=9223372036854775807)(hown:w.ownsRow B 5 1 (.slice a n c) n xs) :
  Calls Tryz.prog 121 #[.slice a n c,.agg #[.int .i64 1,.int .i64 k,.string ⟨#[]⟩,.slice la 0 lc]] w (qW B w (xs++af (aL (.int k)))):=by
 obtain⟨i0,hi0,hz0,hz1,hz2⟩:=eO
 have HOWN:=aa hown
 have hus:eA k<18446744073709551616:=by unfold eA;split<;>omega
 clear hown
 go_enter Tryz.func121,Tryz.ntmps121
 go_upto_region 1 with (fail)
 obtain⟨X,hX⟩:=zg w.heap.size
 obtain⟨w1,hw1⟩:=zg (w.alloc (.cells #[.int .i64 1,.int .i64 k,.string ⟨#[]⟩,.slice la 0 lc] 88))
 rw[<-hw1,<-hX]
 have hx1:=ak (w:=w) (.cells #[.int .i64 1,.int .i64 k,.string ⟨#[]⟩,.slice la 0 lc] 88) hX
 rw[<-hw1]at hx1
 have hk1:co B w w1:=by rw[hw1];exact(co.refl _ _).alloc hB _
 have ho1:w1.ownsRow B 5 1 (.slice a n c) n xs:=by rw[hw1];exact HOWN.out.alloc _
 have hx2:(World.drew w1).heap[X]? = some (.cells #[.int .i64 1,.int .i64 k,.string ⟨#[]⟩,.slice la 0 lc] 88 (0,0)):=hx1
 have hk2:=hk1.drew
 have ho2:(World.drew w1).ownsRow B 5 1 (.slice a n c) n xs:=ho1
 clear hx1 hk1 ho1 hw1 hX
 refine bZ (fun W=>W.heap[X]? = some (.cells #[.int .i64 1,.int .i64 k,.string ⟨#[]⟩,.slice la 0 lc] 88 (0,0))) 7 kr ?_
 change bT _ _ _ _ _ _ _ _ _ (World.drew w1)
 generalize World.drew w1=w2 at *
 refine aM 0 (.slice a n c) rfl kr kr kr kr (fun _ _ _ h=>h) rfl (fun W (h:W.heap[X]? = some (.cells #[.int .i64 1,.int .i64 k,.string ⟨#[]⟩,.slice la 0 lc] 88 (0,0))) => ?y0) hx2 ?_
 case y0=>(obtain⟨_,f0,f1,f2,f3,_,_⟩:=aF (Below.refl _ W) h;go_simp;try rfl)
 try simp only[Act.put,zA]
 refine aM 3 (.pointer (some ⟨X,1,none⟩)) rfl kr kr kr kr (fun _ _ _ h=>h) rfl (fun W (h:W.heap[X]? = some (.cells #[.int .i64 1,.int .i64 k,.string ⟨#[]⟩,.slice la 0 lc] 88 (0,0))) => ?y3) hx2 ?_
 case y3=>(obtain⟨_,f0,f1,f2,f3,_,_⟩:=aF (Below.refl _ W) h;go_simp;try rfl)
 try simp only[Act.put]
 refine aM 4 (.int .i64 k) rfl kr kr kr kr (fun _ _ _ h=>h) rfl (fun W (h:W.heap[X]? = some (.cells #[.int .i64 1,.int .i64 k,.string ⟨#[]⟩,.slice la 0 lc] 88 (0,0))) => ?y4) hx2 ?_
 case y4=>(obtain⟨_,f0,f1,f2,f3,_,_⟩:=aF (Below.refl _ W) h;go_simp;try rfl)
 try simp only[Act.put]
 have hz2':=Nat.le_trans hB hk2.below.size
 refine aC 1 kr rfl rfl ?_
 unfold Oper.wp
 go_simp
 refine⟨aB _ hx2,?_⟩
 try simp only[Act.put,zA]
 refine aC 2 kr rfl rfl ?_
 refine dA (.tmp 5) (.tmp 6) 40 rfl B 5 i0 (.int .u8 0) 1 1 Tryz.underlying40 hi0 hz0 hz1 hz2 rfl (by decide) (.slice a n c) n xs rfl (ho2.alloc _) (some ⟨w2.heap.size,0,none⟩) 1 1 [.int .u8 1] rfl rfl (fun h=>by cases h) (eX _ _) (by intro q hq;simp only[List.mem_singleton]at hq;subst hq;rfl) (by unfold maxLen;omega) om (by simp;omega) ?_
 intro va vc w3 hown3 hgrow3
 have hk3:co B w w3:=(hk2.alloc hz2' _).trans (co.of_grown hgrow3 (ho2.alloc _) (by simp;omega))
 have hx3:w3.heap[X]? = some (.cells #[.int .i64 1,.int .i64 k,.string ⟨#[]⟩,.slice la 0 lc] 88 (0,0)):=(co.of_grown hgrow3 (ho2.alloc _) (by simp;omega)).keep _ _ _ _ (aB _ hx2) (by decide)
 refine⟨.inr hx3,?_⟩
 try simp only[Act.put,zA]
 refine aC 5 kr rfl rfl ?_
 unfold Oper.wp
 go_simp
 refine(qZ k _ h1 h2).mono ?_
 rintro e w4 ⟨rfl,rfl⟩
 refine⟨hx3,?_⟩
 try simp only[Act.put,zA]
 refine aC 6 kr rfl rfl ?_
 unfold Oper.wp
 go_simp
 have hz3:=Nat.le_trans hB hk3.below.size
 have hnum:=it B va (n+1) vc (eA k) (xs++[.int .u8 1]) w3 hz3 om hus hown3
 have hL:xs++[.int .u8 1]++af (cB (eA k))=xs++af (aL (.int k)):=by simp[aL,af]
 rw[hL]at hnum
 generalize xs++af (aL (.int k))=L at *
 have HL:=aa hL
 clear hL
 refine hnum.mono ?_
 rintro e w5 ⟨⟨vb,vd,rfl,hown5⟩,hk5⟩
 have hx5:=hk5.keep _ _ _ _ hx3 (by decide)
 refine⟨hx5,?_⟩
 try simp only[Act.put,zA]
 refine aC 7 kr rfl rfl ?_
 unfold Oper.wp
 go_simp
 refine cV kr ?_
 go_wp2
 go_ret
 exact⟨⟨vb,vd,rfl,hown5⟩,hk3.trans hk5⟩
theorem fA (s:List UInt8):(aw s).size=s.length:=rfl
theorem gE (s:List UInt8):Lib.strCells (aw s)=af s:=by simp[Lib.strCells,aw,af]
theorem fY {P:Program}{w:World}{o:Oper}{a:Act}{K:Act->World->Prop}{Q:Exit->Act->World->Prop}(sl x:Operand)(t u:TypeId)
  (ho:o.op=.call { callee:=.builtin .append,args:=#[sl,x],argTypes:=#[t,u] })
  (base:Nat) (e:TypeId) (i:TypeInfo) (ht:P.underlying t=some (.slice e)) (hu:P.underlying u=some .string) (hi:P.info? e=some i) (hz:i.zero=some (.int .u8 0))
  (hsize:i.size=1) (hby:i.bytes=1)
  (v:Value) (n:Nat) (xs:List Value) (hs:a.eval sl=v) (hown:w.ownsRow base e 1 v n xs) (s:ByteArray) (hx:a.eval x=.string s)
  (h63:n+s.size<=maxLen) (hbytes:n+s.size<=140737488355328) (hbase:base<=w.heap.size)
  (h:∀va vc w',w'.ownsRow base e 1 (.slice va (n+s.size) vc) (n+s.size) (xs++Lib.strCells s)->w.grownBy w' v.ownBlock->K (a.put o.dst (.slice va (n+s.size) vc)) w'):o.wp P a w K Q:=by
 obtain⟨v',w',hr,h2,h3,h4⟩:=Lib.run_append_own_string (P:=P) w base t u o.type e i ht hu hi hz hsize hby v n xs hown s h63 hbytes hbase
 obtain⟨va,vc,rfl⟩:=ft h2
 unfold Oper.wp execOp
 simp only[ho,resolve,invoke,builtin,Sem.run_bind,Sem.run_pure,Result.andThen_ok,List.map_toArray,List.map_cons,List.map_nil,hs,hx,hr]
 exact h va vc w' h2 h3
theorem pK (B:Nat)(a:Option Addr)(n c:Nat)(xs:List Value)(s:List UInt8)(la:Option Addr)(lc:Nat)(w:World)(hB:B<=w.heap.size)(hn:n+s.length<=900000)(hown:w.ownsRow B 5 1 (.slice a n c) n xs) :
  Calls Tryz.prog 124 #[.slice a n c,.agg #[.int .i64 2,.int .i64 0,.string (aw s),.slice la 0 lc]] w (qW B w (xs++af (aL (.text s)))):=by
 obtain⟨i0,hi0,hz0,hz1,hz2⟩:=eO
 have HOWN:=aa hown
 have hxl:xs.length=n:=by simpa using hown.1
 have HXL:=aa hxl
 have hsz:=fA s
 have hnl:=cH (show s.length<18446744073709551616 by omega)
 have hcv:IntKind.u64.wrap (s.length:Int)=(s.length:Int):=by rw[IntKind.wrap_u64];omega
 have HCV:=aa hcv
 clear hown hxl hcv
 go_enter Tryz.func124,Tryz.ntmps124
 go_upto_region 1 with (fail)
 obtain⟨X,hX⟩:=zg w.heap.size
 obtain⟨w1,hw1⟩:=zg (w.alloc (.cells #[.int .i64 2,.int .i64 0,.string (aw s),.slice la 0 lc] 88))
 rw[<-hw1,<-hX]
 have hx1:=ak (w:=w) (.cells #[.int .i64 2,.int .i64 0,.string (aw s),.slice la 0 lc] 88) hX
 rw[<-hw1]at hx1
 have hk1:co B w w1:=by rw[hw1];exact(co.refl _ _).alloc hB _
 have ho1:w1.ownsRow B 5 1 (.slice a n c) n xs:=by rw[hw1];exact HOWN.out.alloc _
 have hx2:(World.drew w1).heap[X]? = some (.cells #[.int .i64 2,.int .i64 0,.string (aw s),.slice la 0 lc] 88 (0,0)):=hx1
 have hk2:=hk1.drew
 have ho2:(World.drew w1).ownsRow B 5 1 (.slice a n c) n xs:=ho1
 clear hx1 hk1 ho1 hw1 hX
 refine bZ (fun W=>W.heap[X]? = some (.cells #[.int .i64 2,.int .i64 0,.string (aw s),.slice la 0 lc] 88 (0,0))) 11 kr ?_
 change bT _ _ _ _ _ _ _ _ _ (World.drew w1)
 generalize World.drew w1=w2 at *
 refine aM 0 (.slice a n c) rfl kr kr kr kr (fun _ _ _ h=>h) rfl (fun W (h:W.heap[X]? = some (.cells #[.int .i64 2,.int .i64 0,.string (aw s),.slice la 0 lc] 88 (0,0))) => ?y0) hx2 ?_
 case y0=>(obtain⟨_,f0,f1,f2,f3,_,_⟩:=aF (Below.refl _ W) h;go_simp;try rfl)
 try simp only[Act.put,zA]
 refine aM 3 (.pointer (some ⟨X,2,none⟩)) rfl kr kr kr kr (fun _ _ _ h=>h) rfl (fun W (h:W.heap[X]? = some (.cells #[.int .i64 2,.int .i64 0,.string (aw s),.slice la 0 lc] 88 (0,0))) => ?y3) hx2 ?_
 case y3=>(obtain⟨_,f0,f1,f2,f3,_,_⟩:=aF (Below.refl _ W) h;go_simp;try rfl)
 try simp only[Act.put]
 refine aM 4 (.string (aw s)) rfl kr kr kr kr (fun _ _ _ h=>h) rfl (fun W (h:W.heap[X]? = some (.cells #[.int .i64 2,.int .i64 0,.string (aw s),.slice la 0 lc] 88 (0,0))) => ?y4) hx2 ?_
 case y4=>(obtain⟨_,f0,f1,f2,f3,_,_⟩:=aF (Below.refl _ W) h;go_simp;try rfl)
 try simp only[Act.put]
 refine aM 5 (.int .i64 (s.length:Int)) rfl kr kr kr kr (fun _ _ _ h=>h) rfl (fun W (h:W.heap[X]? = some (.cells #[.int .i64 2,.int .i64 0,.string (aw s),.slice la 0 lc] 88 (0,0))) => ?y5) hx2 ?_
 case y5=>(obtain⟨_,f0,f1,f2,f3,_,_⟩:=aF (Below.refl _ W) h;go_simp;try rfl)
 try simp only[Act.put]
 refine aM 6 (.int .u64 (s.length:Int)) rfl kr kr kr kr (fun _ _ _ h=>h) rfl (fun W (h:W.heap[X]? = some (.cells #[.int .i64 2,.int .i64 0,.string (aw s),.slice la 0 lc] 88 (0,0))) => ?y6) hx2 ?_
 case y6=>(obtain⟨_,f0,f1,f2,f3,_,_⟩:=aF (Below.refl _ W) h;have hcv:=HCV.out;go_simp;try rfl)
 try simp only[Act.put]
 refine aM 8 (.pointer (some ⟨X,2,none⟩)) rfl kr kr kr kr (fun _ _ _ h=>h) rfl (fun W (h:W.heap[X]? = some (.cells #[.int .i64 2,.int .i64 0,.string (aw s),.slice la 0 lc] 88 (0,0))) => ?y8) hx2 ?_
 case y8=>(obtain⟨_,f0,f1,f2,f3,_,_⟩:=aF (Below.refl _ W) h;go_simp;try rfl)
 try simp only[Act.put]
 refine aM 9 (.string (aw s)) rfl kr kr kr kr (fun _ _ _ h=>h) rfl (fun W (h:W.heap[X]? = some (.cells #[.int .i64 2,.int .i64 0,.string (aw s),.slice la 0 lc] 88 (0,0))) => ?y9) hx2 ?_
 case y9=>(obtain⟨_,f0,f1,f2,f3,_,_⟩:=aF (Below.refl _ W) h;go_simp;try rfl)
 try simp only[Act.put]
 have hz2':=Nat.le_trans hB hk2.below.size
 refine aC 1 kr rfl rfl ?_
 unfold Oper.wp
 go_simp
 refine⟨aB _ hx2,?_⟩
 try simp only[Act.put,zA]
 refine aC 2 kr rfl rfl ?_
 refine dA (.tmp 5) (.tmp 6) 40 rfl B 5 i0 (.int .u8 0) 1 1 Tryz.underlying40 hi0 hz0 hz1 hz2 rfl (by decide) (.slice a n c) n xs rfl (ho2.alloc _) (some ⟨w2.heap.size,0,none⟩) 1 1 [.int .u8 2] rfl rfl (fun h=>by cases h) (eX _ _) (by intro q hq;simp only[List.mem_singleton]at hq;subst hq;rfl) (by unfold maxLen;omega) om (by simp;omega) ?_
 intro va vc w3 hown3 hgrow3
 have hk3:co B w w3:=(hk2.alloc hz2' _).trans (co.of_grown hgrow3 (ho2.alloc _) (by simp;omega))
 have hx3:w3.heap[X]? = some (.cells #[.int .i64 2,.int .i64 0,.string (aw s),.slice la 0 lc] 88 (0,0)):=(co.of_grown hgrow3 (ho2.alloc _) (by simp;omega)).keep _ _ _ _ (aB _ hx2) (by decide)
 refine⟨.inr hx3,?_⟩
 try simp only[Act.put,zA]
 refine aC 7 kr rfl rfl ?_
 unfold Oper.wp
 go_simp
 have hz3:=Nat.le_trans hB hk3.below.size
 have hnum:=it B va (n+1) vc s.length (xs++[.int .u8 2]) w3 hz3 om om hown3
 obtain⟨L1,hL1⟩:=zg (xs++[.int .u8 2]++af (cB s.length))
 rw[<-hL1]at hnum
 have hl1:L1.length<=n+11:=by rw[hL1];simp[af];have:=HXL.out;omega
 have HL1:=aa hL1
 clear hL1
 refine hnum.mono ?_
 rintro e w5 ⟨⟨vb,vd,rfl,hown5⟩,hk5⟩
 have hx5:=hk5.keep _ _ _ _ hx3 (by decide)
 have hk6:=hk3.trans hk5
 refine⟨hx5,?_⟩
 try simp only[Act.put,zA]
 refine aC 10 kr rfl rfl ?_
 refine fY (.tmp 12) (.tmp 14) 40 9 rfl B 5 i0 Tryz.underlying40 Tryz.underlying9 hi0 hz0 hz1 hz2 (.slice vb L1.length vd) L1.length L1 rfl hown5 (aw s) rfl (by rw[fA];unfold maxLen;omega) (by rw[fA];omega) (Nat.le_trans hB hk6.below.size) ?_
 intro vg vh w7 hown7 hgrow7
 have hk7:=co.of_grown hgrow7 hown5 (Nat.le_trans hB hk6.below.size)
 have hx7:=hk7.keep _ _ _ _ hx5 (by decide)
 have hL:L1++Lib.strCells (aw s)=xs++af (aL (.text s)):=by rw[gE,HL1.out];simp[aL,af]
 have hLn:L1.length+(aw s).size=(xs++af (aL (.text s))).length:=by rw[<-hL,gE];simp[af,fA]
 rw[hL,hLn]at hown7
 rw[hLn]
 generalize xs++af (aL (.text s))=L at *
 clear hL hLn
 refine⟨.inr hx7,?_⟩
 try simp only[Act.put,zA]
 refine aC 11 kr rfl rfl ?_
 unfold Oper.wp
 go_simp
 refine cV kr ?_
 go_wp2
 go_ret
 exact⟨⟨vg,vh,rfl,hown7⟩,hk6.trans hk7⟩
theorem VR.int_inv {d:Nat}{w:World}{vs:List Value}{n:Int}(h:VR d w vs (.int n)):(-9223372036854775808<=n/\n<=9223372036854775807)/\∃a c,vs=[.int .i64 1,.int .i64 n,.string ⟨#[]⟩,.slice a 0 c]:=by
 cases d<;>exact h
theorem VR.text_inv {d:Nat}{w:World}{vs:List Value}{s:List UInt8}(h:VR d w vs (.text s)):∃a c,vs=[.int .i64 2,.int .i64 0,.string (aw s),.slice a 0 c]:=by
 cases d<;>exact h
theorem VR.list_inv {d:Nat}{w:World}{vs:List Value}{l:List aT}(h:VR d w vs (.list l)):∃e,d=e+1/\∃a n c,vs=[.int .i64 3,.int .i64 0,.string ⟨#[]⟩,.slice a n c]/\n<=c/\Sl 4 (VR e) w a n l:=by
 cases d with
 | zero=>exact absurd h id
 | succ e=>exact⟨e,rfl,h⟩
def bi : aT->Nat
 | .int _=>1
 | .text _=>2
 | .list _=>3
theorem VR.four {d:Nat}{w:World}{v0 v1 v2 v3:Value}{x:aT}(h:VR d w [v0,v1,v2,v3] x):∃(m:Int) (s:ByteArray) (ea:Option Addr) (en ec:Nat),v0=.int .i64 (bi x)/\v1=.int .i64 m/\v2=.string s/\v3=.slice ea en ec:=by
 cases x with
 | int n=>obtain⟨_,a,c,h⟩:=h.int_inv;cases h;exact⟨_,_,_,_,_,rfl,rfl,rfl,rfl⟩
 | text s=>obtain⟨a,c,h⟩:=h.text_inv;cases h;exact⟨_,_,_,_,_,rfl,rfl,rfl,rfl⟩
 | list l=>obtain⟨_,_,a,n,c,h,_⟩:=h.list_inv;cases h;exact⟨_,_,_,_,_,rfl,rfl,rfl,rfl⟩
theorem rb (x:aT):bi x<4:=by cases x<;>simp[bi]
def Cq (Vb:Nat):Array Value:=#[.nilFunc,.func (.func 121) #[] #[],.func (.func 124) #[] #[],.func (.func 125) #[] #[.pointer (some ⟨Vb,0,none⟩)]]
theorem qw (w:World) :
  Calls Tryz.prog 96 #[] w fun e w'=>e=.returned (.pointer (some ⟨w.heap.size,0,none⟩))/\w'=(w.alloc (.cells (Cq (w.heap.size+1)) 156)).alloc (.cells #[.pointer (some ⟨w.heap.size,0,none⟩)] 126):=by
 go_enter Tryz.func96,Tryz.ntmps96
 go_wp2
 go_ret
 exact⟨rfl,rfl⟩
structure lG (w:World)(Vb Wb:Nat):Prop where
 var:w.heap[Vb]? = some (.cells #[.pointer (some ⟨Wb,0,none⟩)] 126 (0,0))
 wr:w.heap[Wb]? = some (.cells (Cq Vb) 156 (0,0))
theorem lG.kept {B:Nat}{w w':World}{Vb Wb:Nat}(h:lG w Vb Wb)(hk:co B w w'):lG w' Vb Wb:=⟨hk.keep _ _ _ _ h.var (by decide),hk.keep _ _ _ _ h.wr (by decide)⟩
def wf : aT->FuncId
 | .int _=>121
 | .text _=>124
 | .list _=>125
def yG (Vb:Nat):aT->Array Value
 | .list _=>#[.pointer (some ⟨Vb,0,none⟩)]
 | _=>#[]
theorem lG.cell {w:World}{Vb Wb:Nat}(h:lG w Vb Wb)(x:aT):w.cell? ⟨Wb,bi x,none⟩=some (.func (.func (wf x)) #[] (yG Vb x)):=by
 rw[cell_of_row w Wb _ _ _ _ h.wr]
 cases x<;>rfl
def Cj (Vb:Nat)(b v:Value):aT->Array Value
 | .list _=>#[b,v,.pointer (some ⟨Vb,0,none⟩)]
 | _=>#[b,v]
def vZ (w0:World)(d:Nat):Prop:=∀(v:aT) (vs:List Value),VR d w0 vs v->∀(Vb Wb:Nat) (a:Option Addr) (n c:Nat) (xs:List Value) (w:World),Below w0.heap.size w0 w->lG w Vb Wb->n+(aL v).length<=900000 ->
 w.ownsRow w0.heap.size 5 1 (.slice a n c) n xs->Calls Tryz.prog (wf v) (Cj Vb (.slice a n c) (.agg vs.toArray) v) w (qW w0.heap.size w (xs++af (aL v)))
theorem wa (w0:World)(d:Nat)(IH:vZ w0 d)(l:List aT)(la:Option Addr)(ln lc:Nat)(hsl:Sl 4 (VR d) w0 la ln l)(Vb Wb:Nat)(a:Option Addr)(n c:Nat)(xs:List Value)(w:World)(hB0:Below w0.heap.size w0 w)(hw:lG w Vb Wb)(hn:n+(aL (.list l)).length<=900000)(hown:w.ownsRow w0.heap.size 5 1 (.slice a n c) n xs) :
  Calls Tryz.prog 125 #[.slice a n c,.agg #[.int .i64 3,.int .i64 0,.string ⟨#[]⟩,.slice la ln lc],.pointer (some ⟨Vb,0,none⟩)] w (qW w0.heap.size w (xs++af (aL (.list l)))):=by
 obtain⟨i0,hi0,hz0,hz1,hz2⟩:=eO
 obtain⟨B,hBe⟩:=zg w0.heap.size
 have hB:B<=w.heap.size:=by rw[hBe];exact hB0.size
 have hxl:xs.length=n:=by simpa using hown.1
 rw[<-hBe]at hown hB0 ⊢
 have HOWN:=aa hown
 have HXL:=aa hxl
 have HIH:=aa IH
 have HSL:=aa hsl
 have HW:=aa hw
 have HBE:=aa hBe
 have hll:l.length=ln:=hsl.len
 have HLL:=aa hll
 have henc:(aL (.list l)).length=1+(cB ln).length+(bP l).length:=by simp[aL,hll];omega
 have hln:ln<=900000:=by
  have:∀l:List aT,l.length<=(bP l).length:=by
   intro l
   induction l with
   | nil=>simp[bP]
   | cons v l ih =>
    have:1<=(aL v).length:=by cases v<;>simp[aL]
    simp only[bP,List.length_cons,List.length_append]
    omega
  have:=this l
  omega
 have hnl:=cH (show ln<18446744073709551616 by omega)
 have hcv:IntKind.u64.wrap (ln:Int)=(ln:Int):=by rw[IntKind.wrap_u64];omega
 have HCV:=aa hcv
 have HENC:=aa henc
 clear hown hxl IH hsl hw hBe hll hcv henc
 go_enter Tryz.func125,Tryz.ntmps125
 go_upto_region 1 with (fail)
 obtain⟨X,hX⟩:=zg w.heap.size
 obtain⟨w1,hw1⟩:=zg (w.alloc (.cells #[.int .i64 3,.int .i64 0,.string ⟨#[]⟩,.slice la ln lc] 88))
 rw[<-hw1,<-hX]
 have hx1:=ak (w:=w) (.cells #[.int .i64 3,.int .i64 0,.string ⟨#[]⟩,.slice la ln lc] 88) hX
 rw[<-hw1]at hx1
 have hk1:co B w w1:=by rw[hw1];exact(co.refl _ _).alloc hB _
 have ho1:w1.ownsRow B 5 1 (.slice a n c) n xs:=by rw[hw1];exact HOWN.out.alloc _
 have hx2:(World.drew w1).heap[X]? = some (.cells #[.int .i64 3,.int .i64 0,.string ⟨#[]⟩,.slice la ln lc] 88 (0,0)):=hx1
 have hk2:=hk1.drew
 have ho2:(World.drew w1).ownsRow B 5 1 (.slice a n c) n xs:=ho1
 clear hx1 hk1 ho1 hw1 hX
 refine bZ (fun W=>W.heap[X]? = some (.cells #[.int .i64 3,.int .i64 0,.string ⟨#[]⟩,.slice la ln lc] 88 (0,0))) 8 kr ?_
 change bT _ _ _ _ _ _ _ _ _ (World.drew w1)
 generalize World.drew w1=w2 at *
 refine aM 0 (.slice a n c) rfl kr kr kr kr (fun _ _ _ h=>h) rfl (fun W (h:W.heap[X]? = some (.cells #[.int .i64 3,.int .i64 0,.string ⟨#[]⟩,.slice la ln lc] 88 (0,0))) => ?y0) hx2 ?_
 case y0=>(obtain⟨_,f0,f1,f2,f3,_,_⟩:=aF (Below.refl _ W) h;go_simp;try rfl)
 try simp only[Act.put,zA]
 refine aM 3 (.pointer (some ⟨X,3,none⟩)) rfl kr kr kr kr (fun _ _ _ h=>h) rfl (fun W (h:W.heap[X]? = some (.cells #[.int .i64 3,.int .i64 0,.string ⟨#[]⟩,.slice la ln lc] 88 (0,0))) => ?y3) hx2 ?_
 case y3=>(obtain⟨_,f0,f1,f2,f3,_,_⟩:=aF (Below.refl _ W) h;go_simp;try rfl)
 try simp only[Act.put]
 refine aM 4 (.slice la ln lc) rfl kr kr kr kr (fun _ _ _ h=>h) rfl (fun W (h:W.heap[X]? = some (.cells #[.int .i64 3,.int .i64 0,.string ⟨#[]⟩,.slice la ln lc] 88 (0,0))) => ?y4) hx2 ?_
 case y4=>(obtain⟨_,f0,f1,f2,f3,_,_⟩:=aF (Below.refl _ W) h;go_simp;try rfl)
 try simp only[Act.put]
 refine aM 5 (.int .i64 (ln:Int)) rfl kr kr kr kr (fun _ _ _ h=>h) rfl (fun W (h:W.heap[X]? = some (.cells #[.int .i64 3,.int .i64 0,.string ⟨#[]⟩,.slice la ln lc] 88 (0,0))) => ?y5) hx2 ?_
 case y5=>(obtain⟨_,f0,f1,f2,f3,_,_⟩:=aF (Below.refl _ W) h;go_simp;try rfl)
 try simp only[Act.put]
 refine aM 6 (.int .u64 (ln:Int)) rfl kr kr kr kr (fun _ _ _ h=>h) rfl (fun W (h:W.heap[X]? = some (.cells #[.int .i64 3,.int .i64 0,.string ⟨#[]⟩,.slice la ln lc] 88 (0,0))) => ?y6) hx2 ?_
 case y6=>(obtain⟨_,f0,f1,f2,f3,_,_⟩:=aF (Below.refl _ W) h;have hcv:=HCV.out;go_simp;try rfl)
 try simp only[Act.put]
 have hz2':=Nat.le_trans hB hk2.below.size
 refine aC 1 kr rfl rfl ?_
 unfold Oper.wp
 go_simp
 refine⟨aB _ hx2,?_⟩
 try simp only[Act.put,zA]
 refine aC 2 kr rfl rfl ?_
 refine dA (.tmp 8) (.tmp 9) 40 rfl B 5 i0 (.int .u8 0) 1 1 Tryz.underlying40 hi0 hz0 hz1 hz2 rfl (by decide) (.slice a n c) n xs rfl (ho2.alloc _) (some ⟨w2.heap.size,0,none⟩) 1 1 [.int .u8 3] rfl rfl (fun h=>by cases h) (eX _ _) (by intro q hq;simp only[List.mem_singleton]at hq;subst hq;rfl) (by unfold maxLen;omega) om (by simp;omega) ?_
 intro va vc w3 hown3 hgrow3
 have hk3:co B w w3:=(hk2.alloc hz2' _).trans (co.of_grown hgrow3 (ho2.alloc _) (by simp;omega))
 have hx3:w3.heap[X]? = some (.cells #[.int .i64 3,.int .i64 0,.string ⟨#[]⟩,.slice la ln lc] 88 (0,0)):=(co.of_grown hgrow3 (ho2.alloc _) (by simp;omega)).keep _ _ _ _ (aB _ hx2) (by decide)
 refine⟨.inr hx3,?_⟩
 try simp only[Act.put,zA]
 refine aC 7 kr rfl rfl ?_
 unfold Oper.wp
 go_simp
 have hz3:=Nat.le_trans hB hk3.below.size
 have hnum:=it B va (n+1) vc ln (xs++[.int .u8 3]) w3 hz3 om om hown3
 obtain⟨L1,hL1⟩:=zg (xs++[.int .u8 3]++af (cB ln))
 rw[<-hL1]at hnum
 have hl1:L1.length=n+1+(cB ln).length:=by rw[hL1];simp[af];have:=HXL.out;omega
 have HL1:=aa hL1
 have HLEN1:=aa hl1
 clear hL1 hl1
 refine hnum.mono ?_
 rintro e w5 ⟨⟨vb,vd,rfl,hown5⟩,hk5⟩
 have hx5:=hk5.keep _ _ _ _ hx3 (by decide)
 have hk6:=hk3.trans hk5
 refine⟨hx5,?_⟩
 try simp only[Act.put,zA]
 refine aC 8 kr rfl rfl ?_
 unfold Oper.wp
 go_simp
 refine cV kr ?_
 clear hnum hown3 hgrow3 hx3 hk3 hx2 hk2 ho2 hk5 hz3
 have HOWN5:=aa hown5
 have HX5:=aa hx5
 have HK6:=aa hk6
 clear hown5 hx5 hk6
 obtain⟨_,f0,f1,f2,f3,_,_⟩:=aF (Below.refl _ w5) HX5.out
 go_wp2
 clear f0 f1 f2 f3
 go_loopw [0,19] (fun s0 s19 wr=>∃(k:Nat) (A:Option Addr) (C:Nat) (R:List Value),k<=ln/\s19=.int .i64 k/\s0=.slice A R.length C/\R=L1++af (bP (l.take k))/\wr.ownsRow B 5 1 (.slice A R.length C) R.length R/\co B w wr) (fun _ s19 _=>ln-(intOf s19).toNat)
 case atStart=>exact⟨0,vb,vd,L1,Nat.zero_le _,rfl,rfl,by simp[bP,af],HOWN5.out,HK6.out⟩
 case round =>
  clear HOWN5 HK6 HX5
  obtain⟨k,A,C,R,hk,rfl,rfl,hR,hown,hkp⟩:=hrel
  have HR:=aa hR
  have HOWN:=aa hown
  have hz:=Nat.le_trans hB hkp.below.size
  have hbw:=hB0.trans hkp.below
  have HWr:=aa (HW.out.kept hkp)
  have HKP:=aa hkp
  clear hR hown hkp
  by_cases hlt:k<ln
  ·obtain⟨x,hx⟩:=av HLL.out hlt
   obtain⟨qb,qo,rfl,v0,v1,v2,v3,hvr,c0,c1,c2,c3⟩:∃qb qo,la=some ⟨qb,qo,none⟩/\∃v0 v1 v2 v3,VR d w0 [v0,v1,v2,v3] x/\w0.cell? ⟨qb,qo+k*4,none⟩=some v0/\w0.cell? ⟨qb,qo+k*4+1,none⟩=some v1/\w0.cell? ⟨qb,qo+k*4+2,none⟩=some v2/\w0.cell? ⟨qb,qo+k*4+3,none⟩=some v3:=by
    rcases Sl.at4 HSL.out with h0|⟨b,off,h0,hc⟩
    ·omega
    ·obtain⟨v0,v1,v2,v3,h⟩:=hc k x hx
     exact⟨b,off,h0,v0,v1,v2,v3,h⟩
   have hbw':Below w0.heap.size w0 wr:=by rw[<-HBE.out];exact hbw
   have c0:=ag hbw' c0
   have c1:=ag hbw' c1
   have c2:=ag hbw' c2
   have c3:=ag hbw' c3
   have hsn:=iC l k x hx
   have hln2:=eP l (k+1)
   rw[hsn,List.length_append]at hln2
   obtain⟨vm,vs,ea,en,ec,rfl,rfl,rfl,rfl⟩:=hvr.four
   have HVR:=aa hvr
   have HSN:=aa hsn
   have hRl:R.length+(aL x).length<=900000:=by
    have h1:=congrArg List.length HR.out
    have h2:=HLEN1.out
    have h3:=HENC.out
    simp only[List.length_append,af,List.length_map]at h1
    omega
   clear hx hsn hln2 hvr hbw
   go_upto_region 5 with (fail)
   clear c0 c1 c2 c3
   obtain⟨X7,hX7⟩:=zg wr.heap.size
   have hS7:=(Below.refl _ wr).alloc (Nat.le_refl _) (.cells #[.int .i64 (bi x),.int .i64 vm,.string vs,.slice ea en ec] 88)
   have hx7:=ak (w:=wr) (.cells #[.int .i64 (bi x),.int .i64 vm,.string vs,.slice ea en ec] 88) hX7
   have ho7:=HOWN.out.alloc (.cells #[.int .i64 (bi x),.int .i64 vm,.string vs,.slice ea en ec] 88)
   have hk7:=HKP.out.alloc hz (.cells #[.int .i64 (bi x),.int .i64 vm,.string vs,.slice ea en ec] 88)
   rw[<-hX7]
   generalize wr.alloc (.cells #[.int .i64 (bi x),.int .i64 vm,.string vs,.slice ea en ec] 88)=w6 at *
   have hw6:=HW.out.kept hk7
   have hx8:(World.drew w6).heap[X7]? = some (.cells #[.int .i64 (bi x),.int .i64 vm,.string vs,.slice ea en ec] 88 (0,0)):=hx7
   have ho8:(World.drew w6).ownsRow B 5 1 (.slice A R.length C) R.length R:=ho7
   have hk8:=hk7.drew
   have hw8:=HW.out.kept hk8
   refine wp_region_still_tail 9 kr kr ?_
   simp only[List.take_succ_cons,List.take_zero,List.drop_succ_cons,List.drop_zero]
   change wpStill _ _ (World.drew w6) _ _ _
   generalize hw7:World.drew w6=w7 at *
   have HW7:=aa hw7
   clear hw7
   obtain⟨_,e0,e1,e2,e3,_,_⟩:=aF (Below.refl _ w7) hx8
   obtain⟨_,e4,_⟩:=Ct (Below.refl _ w7) hw8.var
   have e5:=hw8.cell x
   have k1:((bi x:Nat):Int)<4:=by have:=rb x;omega
   have HX8:=aa hx8
   have HO8:=aa ho8
   have HK8:=aa hk8
   have HW8:=aa hw8
   clear hx7 ho7 hk7 hw6 hx8 ho8 hk8 hw8 hS7 hX7
   iterate 9 still_step
   refine wpStill_nil ?_
   change wpList _ _ _ _ _ (World.drew w6)
   rw[HW7.out]
   clear e0 e1 e2 e3 e4 e5
   have hcall:=HIH.out x _ HVR.out Vb Wb A R.length C R w7 (by rw[<-HBE.out];exact hB0.trans HK8.out.below) HW8.out hRl (by rw[<-HBE.out];exact HO8.out)
   rw[<-HBE.out]at hcall
   have hRn:R++af (aL x)=L1++af (bP (l.take (k+1))):=by rw[HR.out,HSN.out];simp[af]
   obtain⟨R2,hR2⟩:=zg (R++af (aL x))
   rw[<-hR2]at hcall hRn
   have HRN:=aa hRn
   have HCALL:=aa hcall
   clear hRn hR2 hcall
   cases x
   all_goals
    simp only[wf,yG]
    go_wp2_with fail
    refine HCALL.out.mono ?_
    rintro e w9 ⟨⟨vg,vh,rfl,hown9⟩,hk9⟩
    have hk10:=HK8.out.trans hk9
    have HO9:=aa hown9
    clear hown9
    go_wp2
    go_roundw
    case rel=>exact⟨k+1,vg,vh,R2,om,by go_num,rfl,HRN.out,HO9.out,hk10⟩
    case measure=>simp[intOf];omega
  ·obtain rfl:k=ln:=om
   have hfin:R=xs++af (aL (.list l)):=by
    rw[HR.out,HL1.out,List.take_of_length_le (by have:=HLL.out;omega)]
    simp[aL,af,HLL.out]
   subst hfin
   go_wp2
   go_ret
   exact⟨⟨A,C,rfl,HOWN.out⟩,HKP.out⟩
theorem um (w0:World):∀d,vZ w0 d:=by
 intro d
 induction d with
 | zero =>
  intro v vs h Vb Wb a n c xs w hB hw hn hown
  cases v with
  | int m =>
   obtain⟨⟨h1,h2⟩,la,lc,rfl⟩:=h.int_inv
   exact q9 _ a n c xs m la lc w hB.size om h1 h2 hown
  | text s =>
   obtain⟨la,lc,rfl⟩:=h.text_inv
   have:s.length<=(aL (.text s)).length:=by simp[aL];omega
   exact pK _ a n c xs s la lc w hB.size om hown
  | list l=>exact absurd h id
 | succ d ih =>
  intro v vs h Vb Wb a n c xs w hB hw hn hown
  cases v with
  | int m =>
   obtain⟨⟨h1,h2⟩,la,lc,rfl⟩:=h.int_inv
   exact q9 _ a n c xs m la lc w hB.size om h1 h2 hown
  | text s =>
   obtain⟨la,lc,rfl⟩:=h.text_inv
   have:s.length<=(aL (.text s)).length:=by simp[aL];omega
   exact pK _ a n c xs s la lc w hB.size om hown
  | list l =>
   obtain⟨e,he,la,ln,lc,rfl,_,hsl⟩:=h.list_inv
   cases he
   exact wa w0 d ih l la ln lc hsl Vb Wb a n c xs w hB hw hn hown
theorem og (n:Int)(la:Option Addr)(lc:Nat)(w:World) :
  Calls Tryz.prog 120 #[.agg #[.int .i64 1,.int .i64 n,.string ⟨#[]⟩,.slice la 0 lc]] w fun e w'=>e=.returned (.tuple #[.int .i64 0,.bool true])/\Below w.heap.size w w':=by
 by_cases hn:n=0
 ·subst hn
  go_enter Tryz.func120,Tryz.ntmps120
  go_wp2
  go_ret2
  exact⟨rfl,by go_grown⟩
 ·have h1:decide (n=0)=false:=by simpa using hn
  have h2:(n == 0)=false:=by simpa using hn
  go_enter Tryz.func120,Tryz.ntmps120
  go_wp2
  go_ret2
  exact⟨rfl,by go_grown⟩
theorem mM (s:List UInt8)(la:Option Addr)(lc:Nat)(w:World) :
  Calls Tryz.prog 120 #[.agg #[.int .i64 2,.int .i64 0,.string (aw s),.slice la 0 lc]] w fun e w'=>e=.returned (.tuple #[.int .i64 0,.bool true])/\Below w.heap.size w w':=by
 go_enter Tryz.func120,Tryz.ntmps120
 go_wp2
 all_goals
  go_ret2
  exact⟨rfl,by go_grown⟩
def pi (d:Nat)(e:Ending):Prop:=∃m:Nat,m<=d/\e=.returned (.tuple #[.int .i64 m,.bool true])
theorem sH (d:Nat)(hd:d<=1000)(IH:∀(v:aT) (vs:List Value) (w:World),VR d w vs v->(aL v).length<=1000000->Calls Tryz.prog 120 #[.agg vs.toArray] w fun e w'=>pi d e/\Below w.heap.size w w')
  (l:List aT) (la:Option Addr) (ln lc:Nat) (w:World) (hm:ln<=1000000) (hel:(bP l).length<=1000000) (hsl:Sl 4 (VR d) w la ln l) :
  Calls Tryz.prog 120 #[.agg #[.int .i64 3,.int .i64 0,.string ⟨#[]⟩,.slice la ln lc]] w fun e w'=>pi (d+1) e/\Below w.heap.size w w':=by
 have HSL:=aa hsl
 have HIH:=aa IH
 have HLL:=aa hsl.len
 clear hsl IH
 go_enter Tryz.func120,Tryz.ntmps120
 go_wp2
 have hB1:Below w.heap.size w ((w.alloc (.cells #[.int .i64 3,.int .i64 0,.string ⟨#[]⟩,.slice la ln lc] 88)).alloc (.cells #[.bool false,.bool ((ln:Int) == 0),.bool ((ln:Int) == 0),.bool true] 175)):=((Below.refl _ w).alloc (Nat.le_refl _) _).alloc (by simp) _
 generalize (w.alloc (.cells #[.int .i64 3,.int .i64 0,.string ⟨#[]⟩,.slice la ln lc] 88)).alloc (.cells #[.bool false,.bool ((ln:Int) == 0),.bool ((ln:Int) == 0),.bool true] 175)=w1 at *
 go_loopw [2,57] (fun s2 s57 wr=>∃k m:Nat,k<=ln/\m<=d/\s57=.int .i64 k/\s2=.int .i64 m/\Below w.heap.size w wr) (fun _ s57 _=>ln-(intOf s57).toNat)
 case atStart=>exact⟨0,0,Nat.zero_le _,Nat.zero_le _,rfl,rfl,hB1⟩
 case round =>
  clear hB1
  obtain⟨k,m,hk,hmd,rfl,rfl,hB⟩:=hrel
  by_cases hlt:k<ln
  ·obtain⟨x,hx⟩:=av HLL.out hlt
   obtain⟨qb,qo,rfl,v0,v1,v2,v3,hvr,c0,c1,c2,c3⟩:∃qb qo,la=some ⟨qb,qo,none⟩/\∃v0 v1 v2 v3,VR d w [v0,v1,v2,v3] x/\w.cell? ⟨qb,qo+k*4,none⟩=some v0/\w.cell? ⟨qb,qo+k*4+1,none⟩=some v1/\w.cell? ⟨qb,qo+k*4+2,none⟩=some v2/\w.cell? ⟨qb,qo+k*4+3,none⟩=some v3:=by
    rcases Sl.at4 HSL.out with h0|⟨b,off,h0,hc⟩
    ·omega
    ·obtain⟨v0,v1,v2,v3,h⟩:=hc k x hx
     exact⟨b,off,h0,v0,v1,v2,v3,h⟩
   have c0:=ag hB c0
   have c1:=ag hB c1
   have c2:=ag hB c2
   have c3:=ag hB c3
   obtain⟨vm,vs,ea,en,ec,rfl,rfl,rfl,rfl⟩:=hvr.four
   have hBa:=hB.alloc hB.size (.cells #[.int .i64 (bi x),.int .i64 vm,.string vs,.slice ea en ec] 88)
   have HVR:=aa (VR.below d _ _ _ _ hBa hvr)
   have hxl:(aL x).length<=1000000:=by have h1:=iC l k x hx;have h2:=eP l (k+1);rw[h1,List.length_append]at h2;omega
   clear hx hvr
   go_wp2_with fail
   refine(HIH.out x _ _ HVR.out hxl).mono ?_
   rintro e w3 ⟨⟨q,hq,rfl⟩,hB3⟩
   have hb3:=hBa.trans (hB3.mono hBa.size)
   clear c0 c1 c2 c3 hBa hB3
   go_wp2
   go_roundw
   case rel=>exact⟨k+1,max m q,om,om,by go_num,by congr 1;split<;>omega,hb3⟩
   case measure=>simp[intOf];omega
  ·obtain rfl:k=ln:=om
   go_wp2
   go_ret2
   exact⟨⟨m+1,om,rfl⟩,hB⟩
theorem uo : ∀(d:Nat),d<=1000->∀(v:aT) (vs:List Value) (w:World),(aL v).length<=1000000->VR d w vs v->Calls Tryz.prog 120 #[.agg vs.toArray] w fun e w'=>pi d e/\Below w.heap.size w w':=by
 intro d
 induction d with
 | zero =>
  intro _ v vs w hl h
  cases v with
  | int n=>obtain⟨_,a,c,rfl⟩:=h.int_inv;exact(og n a c w).mono fun e w' ⟨he,hb⟩=>⟨⟨0,Nat.zero_le _,he⟩,hb⟩
  | text s=>obtain⟨a,c,rfl⟩:=h.text_inv;exact(mM s a c w).mono fun e w' ⟨he,hb⟩=>⟨⟨0,Nat.zero_le _,he⟩,hb⟩
  | list l=>exact absurd h id
 | succ d ih =>
  intro hd v vs w hl h
  cases v with
  | int n=>obtain⟨_,a,c,rfl⟩:=h.int_inv;exact(og n a c w).mono fun e w' ⟨he,hb⟩=>⟨⟨0,Nat.zero_le _,he⟩,hb⟩
  | text s=>obtain⟨a,c,rfl⟩:=h.text_inv;exact(mM s a c w).mono fun e w' ⟨he,hb⟩=>⟨⟨0,Nat.zero_le _,he⟩,hb⟩
  | list l =>
   obtain⟨_,hde,a,n,c,rfl,_,hsl⟩:=h.list_inv
   cases hde
   have hln:l.length<=(bP l).length:=by
    have:∀l:List aT,l.length<=(bP l).length:=by
     intro l
     induction l with
     | nil=>simp[bP]
     | cons v l ih =>
      have:1<=(aL v).length:=by cases v<;>simp[aL]
      simp only[bP,List.length_cons,List.length_append]
      omega
    exact this l
   have hln2:(bP l).length<=(aL (.list l)).length:=by simp[aL];omega
   exact sH d om (fun v vs w hv hl2=>ih om v vs w hl2 hv) l a n c w (by have:=hsl.len;omega) om hsl
theorem uq (d:Nat)(hd:d<=16)(v:aT)(v0 v1 v2 v3:Value)(w:World)(hl:(aL v).length<=1000000)(h:VR d w [v0,v1,v2,v3] v) :
  Calls Tryz.prog 95 #[.agg #[v0,v1,v2,v3]] w fun e w'=>e=.returned (.int .i64 0)/\Below w.heap.size w w':=by
 obtain⟨vm,vs,ea,en,ec,rfl,rfl,rfl,rfl⟩:=h.four
 have H:=aa h
 clear h
 go_enter Tryz.func95,Tryz.ntmps95
 go_wp2_with fail
 have hB:=(Below.refl _ w).alloc (Nat.le_refl _) (.cells #[.int .i64 (bi v),.int .i64 vm,.string vs,.slice ea en ec] 88)
 refine(uo d om v _ _ hl (VR.below d _ _ _ _ hB H.out)).mono ?_
 rintro e w2 ⟨⟨m,hm,rfl⟩,hB2⟩
 have hb:=hB.trans (hB2.mono hB.size)
 have k1:¬(16:Int)<(m:Int):=om
 clear hB hB2
 go_wp2
 go_ret
 exact⟨rfl,hb⟩
theorem gP (d:Nat)(hd:d<=16)(v:aT)(E:List UInt8)(hE:aL v=E)(v0 v1 v2 v3:Value)(w:World)(hl:E.length<=900000)(h:VR d w [v0,v1,v2,v3] v) :
  Calls Tryz.prog 53 #[.agg #[v0,v1,v2,v3]] w fun e w'=>(∃va vc,e=.returned (.tuple #[.slice va E.length vc,.int .i64 0])/\w'.ownsRow w.heap.size 5 1 (.slice va E.length vc) E.length (af E))/\Below w.heap.size w w':=by
 have HE:=aa hE
 clear hE
 obtain⟨vm,vs,ea,en,ec,rfl,rfl,rfl,rfl⟩:=h.four
 have H:=aa h
 clear h
 go_enter Tryz.func53,Tryz.ntmps53
 go_upto_region 1 with (fail)
 obtain⟨X,hX⟩:=zg w.heap.size
 have hB:=(Below.refl _ w).alloc (Nat.le_refl _) (.cells #[.int .i64 (bi v),.int .i64 vm,.string vs,.slice ea en ec] 88)
 have hx:=ak (w:=w) (.cells #[.int .i64 (bi v),.int .i64 vm,.string vs,.slice ea en ec] 88) hX
 rw[<-hX]
 generalize w.alloc (.cells #[.int .i64 (bi v),.int .i64 vm,.string vs,.slice ea en ec] 88)=w1 at *
 have H1:=aa (VR.below d _ _ _ _ hB H.out)
 have HX:=aa hx
 obtain⟨_,f0,f1,f2,f3,_,_⟩:=aF (Below.refl _ w1) hx
 clear hx hX
 go_wp2_with fail
 refine(uq d hd v _ _ _ _ w1 (by rw[HE.out];omega) H1.out).mono ?_
 rintro e w2 ⟨rfl,hB2⟩
 have hb2:=hB.trans (hB2.mono hB.size)
 have hx2:=(hB2.block _ (lt_of_block HX.out)).trans HX.out
 have hv2:=VR.below d _ _ _ _ hB2 H1.out
 clear f0 f1 f2 f3 hB hB2 HX
 go_upto_region 4 with (fail)
 refine bZ (fun W=>W.heap[X]? = some (.cells #[.int .i64 (bi v),.int .i64 vm,.string vs,.slice ea en ec] 88 (0,0))) 10 kr ?_
 change bT _ _ _ _ _ _ _ _ _ (World.drew w2)
 have hx3:(World.drew w2).heap[X]? = some (.cells #[.int .i64 (bi v),.int .i64 vm,.string vs,.slice ea en ec] 88 (0,0)):=hx2
 have hb3:Below w.heap.size w (World.drew w2):=hb2.drew
 have hv3:VR d (World.drew w2) [.int .i64 (bi v),.int .i64 vm,.string vs,.slice ea en ec] v:=VR.below d _ _ _ _ ((Below.refl _ w2).drew) hv2
 generalize World.drew w2=w3 at *
 clear hx2 hb2 hv2
 refine aM 1 (.pointer (some ⟨X,0,none⟩)) rfl kr kr kr kr (fun _ _ _ h=>h) rfl (fun W (h:W.heap[X]? = some (.cells #[.int .i64 (bi v),.int .i64 vm,.string vs,.slice ea en ec] 88 (0,0))) => ?y1) hx3 ?_
 case y1=>(obtain⟨_,f0,f1,f2,f3,_,_⟩:=aF (Below.refl _ W) h;go_simp;try rfl)
 try simp only[Act.put,zA]
 refine aM 2 (.int .i64 (bi v)) rfl kr kr kr kr (fun _ _ _ h=>h) rfl (fun W (h:W.heap[X]? = some (.cells #[.int .i64 (bi v),.int .i64 vm,.string vs,.slice ea en ec] 88 (0,0))) => ?y2) hx3 ?_
 case y2=>(obtain⟨_,f0,f1,f2,f3,_,_⟩:=aF (Below.refl _ W) h;go_simp;try rfl)
 try simp only[Act.put]
 refine aM 7 (.agg #[.int .i64 (bi v),.int .i64 vm,.string vs,.slice ea en ec]) rfl kr kr kr kr (fun _ _ _ h=>h) rfl (fun W (h:W.heap[X]? = some (.cells #[.int .i64 (bi v),.int .i64 vm,.string vs,.slice ea en ec] 88 (0,0))) => ?y7) hx3 ?_
 case y7=>(obtain⟨_,f0,f1,f2,f3,_,_⟩:=aF (Below.refl _ W) h;go_simp;try rfl)
 try simp only[Act.put]
 refine aC 0 kr rfl rfl ?_
 unfold Oper.wp
 go_simp
 refine(qw w3).mono ?_
 rintro e w4 ⟨rfl,hw4⟩
 have hS4:Below w3.heap.size w3 w4:=by rw[hw4];exact((Below.refl _ w3).alloc (Nat.le_refl _) _).alloc (by simp) _
 have hWr:lG w4 (w3.heap.size+1) w3.heap.size:=by
  rw[hw4]
  exact⟨ak _ (by simp),aB _ (ak _ rfl)⟩
 clear hw4
 have hx4:=(hS4.block _ (lt_of_block hx3)).trans hx3
 have HX4:=aa hx4
 have hb4:=hb3.trans (hS4.mono hb3.size)
 obtain⟨Wb,hWb⟩:=zg w3.heap.size
 rw[<-hWb]at hWr ⊢
 obtain⟨Vb,hVb⟩:=zg (Wb+1)
 rw[<-hVb]at hWr
 have hv4:=VR.below d _ _ _ _ hS4 hv3
 have k1:((bi v:Nat):Int)<4:=by have:=rb v;omega
 have e5:=hWr.cell v
 clear hWb hVb hS4 hv3 hx4 hx3
 refine⟨HX4.out,?_⟩
 try simp only[Act.put,zA]
 refine aC 3 kr rfl rfl ?_
 unfold Oper.wp
 go_simp
 refine⟨HX4.out,?_⟩
 try simp only[Act.put,zA]
 refine aC 4 kr rfl rfl ?_
 unfold Oper.wp
 go_simp
 refine⟨HX4.out,?_⟩
 try simp only[Act.put,zA]
 refine aC 5 kr rfl rfl ?_
 unfold Oper.wp
 go_simp
 refine⟨HX4.out,?_⟩
 try simp only[Act.put,zA]
 refine aC 6 kr rfl rfl ?_
 unfold Oper.wp
 go_simp
 refine⟨HX4.out,?_⟩
 try simp only[Act.put,zA]
 have hcall:=um w4 d v _ hv4 Vb Wb none 0 0 [] w4 (Below.refl _ _) hWr (by rw[HE.out];omega) (World.ownsRow_nil w4 w4.heap.size 5 1)
 rw[List.nil_append,HE.out]at hcall
 have HCALL:=aa hcall
 clear hcall e5
 refine aC 8 kr rfl rfl ?_
 unfold Oper.wp
 cases v
 all_goals
  simp only[wf,yG]
  go_simp
  refine HCALL.out.mono ?_
  rintro e w5 ⟨⟨va,vc,rfl,hown5⟩,hk5⟩
  have hx5:=hk5.keep _ _ _ _ HX4.out (by decide)
  have hb5:=hb4.trans (hk5.below.mono hb4.size)
  have hel:(af E).length=E.length:=by simp[af]
  rw[hel]at hown5 ⊢
  have hown6:w5.ownsRow w.heap.size 5 1 (.slice va E.length vc) E.length (af E):=by
   obtain⟨q1,q2⟩:=hown5
   refine⟨q1,?_⟩
   rcases q2 with q2|⟨g,cap,cur,q2,q3,q4⟩
   ·exact .inl q2
   ·exact .inr ⟨g,cap,cur,q2,Nat.le_trans hb4.size q3,q4⟩
  have HX5:=aa hx5
  clear hown5 hel hx5
  refine⟨HX5.out,?_⟩
  try simp only[Act.put,zA]
  refine aC 9 kr rfl rfl ?_
  unfold Oper.wp
  go_simp
  refine⟨HX5.out,?_⟩
  try simp only[Act.put,zA]
  refine aC 10 kr rfl rfl ?_
  unfold Oper.wp
  go_simp
  refine cV kr ?_
  go_wp2
  go_ret2
  exact⟨⟨va,vc,rfl,hown6⟩,hb5⟩
theorem dB {w:World}{a:Option Addr}{n c:Nat}{bs:List UInt8}(h:Sl 1 ai w a n bs):(convert 40 9 (.slice a n c)).run Tryz.prog w=.ok (.string (aw bs)) w:=by
 obtain⟨hl,h⟩:=h
 subst hl
 cases a with
 | none =>
  rcases h with h|⟨b,off,h,_⟩
  ·rw[run_convert_bytes_nil w 40 5 Tryz.underlying40 Tryz.underlying5 _ _ 9 Tryz.underlying9]
   rw[List.eq_nil_of_length_eq_zero h]
   rfl
  ·cases h
 | some ad =>
  rcases h with h|⟨b,off,h,hc⟩
  ·have h0:bs=[]:=List.eq_nil_of_length_eq_zero h
   subst h0
   rw[run_convert_bytes_string w 40 9 5 _ _ _ Tryz.underlying40 Tryz.underlying5 Tryz.underlying9]
   rw[show ([]:List UInt8).length=0 from rfl,run_bytesToString w ad 0 c [] (by simp[loadCells,loadCellsFrom,Sem.run_pure])]
   rfl
  ·simp only[Option.some.injEq]at h
   subst h
   have:=run_convert_bytes_arg (P:=Tryz.prog) w 40 5 Tryz.underlying40 Tryz.underlying5 b off bs.length c (bs.map fun x=>(x.toNat:Int)) (by simp) (fun i hi=>by
    obtain⟨vs,_,hv,hcell⟩:=hc i bs[i] (List.getElem?_eq_getElem hi)
    obtain rfl:vs=_:=hv
    have h2:=hcell 0 _ rfl
    simp only[Nat.mul_one,Nat.add_zero]at h2
    rw[h2]
    simp[List.getD,hi]) 9 Tryz.underlying9
   rw[this]
   simp[strOfNums,aw,Function.comp_def]
structure ar where
 node:Int
 no:Int
 prev:List UInt8
 data:List UInt8
def ah (x:ar)(a:Option Addr)(n c:Nat):List Value:=.int .i64 x.node :: .int .i64 x.no::(af x.prev++[.slice a n c])
theorem bh {x:ar}(h:x.prev.length=32)(a:Option Addr)(n c:Nat):(ah x a n c).length=35:=by simp[ah,af,h]
theorem jg : (Tryz.prog.info? 50).map (·.size)=some 35:=kr
def bQ (n:Int):Prop:=-9223372036854775808<=n/\n<=9223372036854775807
def aq : World->List Value->ar->Prop:=fun w vs x=>∃a n c,vs=ah x a n c/\x.prev.length=32/\bQ x.node/\bQ x.no/\n<=c/\Sl 1 ai w a n x.data
theorem aq.keeps : ju aq:=fun _ _ _ _ hb ⟨a,n,c,h1,h2,h3,h4,h5,h6⟩=>⟨a,n,c,h1,h2,h3,h4,h5,h6.below ai.keeps hb⟩
theorem kD (n:Int)(w:World) :
  Calls Tryz.prog 55 #[.int .i64 n] w fun e w'=>e=.returned (.agg #[.int .i64 1,.int .i64 n,.string ⟨#[]⟩,.slice none 0 0])/\Below w.heap.size w w':=by
 go_enter Tryz.func55,Tryz.ntmps55
 go_wp2
 refine bodyPost_ret (by simp[results,Tryz.results55,go_sem];try rfl) rfl ?_
 exact⟨rfl,by go_grown⟩
theorem pL (a:Option Addr)(n c:Nat)(l:List UInt8)(w:World)(h:Sl 1 ai w a n l) :
  Calls Tryz.prog 56 #[.slice a n c] w fun e w'=>e=.returned (.agg #[.int .i64 2,.int .i64 0,.string (aw l),.slice none 0 0])/\Below w.heap.size w w':=by
 have hB:=(Below.refl _ w).alloc (Nat.le_refl _) (.cells #[.int .i64 0,.int .i64 0,.string ⟨#[]⟩,.slice none 0 0] 88)
 have hcv:=dB (c:=c) (h.below ai.keeps hB)
 clear hB
 go_enter Tryz.func56,Tryz.ntmps56
 go_wp2
 refine bodyPost_ret (by simp[results,Tryz.results56,go_sem];try rfl) rfl ?_
 exact⟨rfl,by go_grown⟩
theorem we (a:Option Addr)(n c:Nat)(w:World) :
  Calls Tryz.prog 54 #[.slice a n c] w fun e w'=>e=.returned (.agg #[.int .i64 3,.int .i64 0,.string ⟨#[]⟩,.slice a n c])/\Below w.heap.size w w':=by
 go_enter Tryz.func54,Tryz.ntmps54
 go_wp2
 refine bodyPost_ret (by simp[results,Tryz.results54,go_sem];try rfl) rfl ?_
 exact⟨rfl,by go_grown⟩
def cM (x:ar):aT:=.list [.int x.node,.int x.no,.text x.prev,.text x.data]
def qF : List UInt8:=[110,111,110,101]
def oh : List UInt8:=[108,105,110,107]
def bR (l:List ar):List UInt8:=match l.getLast? with
 | none=>ik qF []
 | some x=>ik oh (aL (cM x))
theorem dI (l:List ar):(bR l).length=32:=by unfold bR;split<;>exact kL _ _
theorem gJ (x:ar)(h1:bQ x.node)(h2:bQ x.no)(hp:x.prev.length=32)(hd:x.data.length<=100000):(aL (cM x)).length<=200000:=by
 have q:∀n:Int,bQ n->(cB (eA n)).length<=10:=fun n h=>cH (by unfold eA;obtain⟨a,b⟩:=h;split<;>omega)
 have q1:=q _ h1
 have q2:=q _ h2
 have q3:=cH (show x.data.length<18446744073709551616 by omega)
 have q4:=cH (show x.prev.length<18446744073709551616 by omega)
 have q5:(cB (0+1+1+1+1)).length<=10:=cH om
 simp only[cM,aL,bP,List.length_cons,List.length_append,List.length_nil]
 omega
theorem mj (w:World)(g:Nat)(x:ar)(h1:bQ x.node)(h2:bQ x.no)
  (h:ac w g 88 [.int .i64 1,.int .i64 x.node,.string ⟨#[]⟩,.slice none 0 0,.int .i64 1,.int .i64 x.no,.string ⟨#[]⟩,.slice none 0 0,.int .i64 2,.int .i64 0,.string (aw x.prev),.slice none 0 0,.int .i64 2,.int .i64 0,.string (aw x.data),.slice none 0 0]) :
  VR 1 w [.int .i64 3,.int .i64 0,.string ⟨#[]⟩,.slice (some ⟨g,0,none⟩) 4 4] (cM x):=by
 refine⟨_,4,4,rfl,Nat.le_refl _,rfl,.inr ⟨g,0,rfl,fun i v hv => ?_⟩⟩
 have hc:=ac.cell h
 match i,hv with
 | 0,hv =>
  cases hv
  refine⟨[.int .i64 1,.int .i64 x.node,.string ⟨#[]⟩,.slice none 0 0],rfl,⟨h1,none,0,rfl⟩,fun j u hu => ?_⟩
  match j,hu with
  | 0,hu=>exact(hc 0).trans hu
  | 1,hu=>exact(hc 1).trans hu
  | 2,hu=>exact(hc 2).trans hu
  | 3,hu=>exact(hc 3).trans hu
  | j+4,hu=>simp at hu
 | 1,hv =>
  cases hv
  refine⟨[.int .i64 1,.int .i64 x.no,.string ⟨#[]⟩,.slice none 0 0],rfl,⟨h2,none,0,rfl⟩,fun j u hu => ?_⟩
  match j,hu with
  | 0,hu=>exact(hc 4).trans hu
  | 1,hu=>exact(hc 5).trans hu
  | 2,hu=>exact(hc 6).trans hu
  | 3,hu=>exact(hc 7).trans hu
  | j+4,hu=>simp at hu
 | 2,hv =>
  cases hv
  refine⟨[.int .i64 2,.int .i64 0,.string (aw x.prev),.slice none 0 0],rfl,⟨none,0,rfl⟩,fun j u hu => ?_⟩
  match j,hu with
  | 0,hu=>exact(hc 8).trans hu
  | 1,hu=>exact(hc 9).trans hu
  | 2,hu=>exact(hc 10).trans hu
  | 3,hu=>exact(hc 11).trans hu
  | j+4,hu=>simp at hu
 | 3,hv =>
  cases hv
  refine⟨[.int .i64 2,.int .i64 0,.string (aw x.data),.slice none 0 0],rfl,⟨none,0,rfl⟩,fun j u hu => ?_⟩
  match j,hu with
  | 0,hu=>exact(hc 12).trans hu
  | 1,hu=>exact(hc 13).trans hu
  | 2,hu=>exact(hc 14).trans hu
  | 3,hu=>exact(hc 15).trans hu
  | j+4,hu=>simp at hu
 | i+4,hv=>simp at hv
theorem dj (x:ar)(a:Option Addr)(n c:Nat):(ah x a n c)[0]? = some (.int .i64 x.node):=rfl
theorem fi (x:ar)(a:Option Addr)(n c:Nat):(ah x a n c)[1]? = some (.int .i64 x.no):=rfl
theorem em {x:ar}(h:x.prev.length=32)(a:Option Addr)(n c:Nat):(ah x a n c)[34]? = some (.slice a n c):=by
 unfold ah
 rw[List.getElem?_cons_succ,List.getElem?_cons_succ,List.getElem?_append_right (by simp[af,h])]
 simp[af,h]
theorem iN {x:ar}(i:Nat)(b:UInt8)(hb:x.prev[i]? = some b)(a:Option Addr)(n c:Nat):(ah x a n c)[i+2]? = some (.int .u8 b.toNat):=by
 unfold ah
 rw[List.getElem?_cons_succ,List.getElem?_cons_succ,List.getElem?_append_left (by have:=(List.getElem?_eq_some_iff.1 hb).1;simpa[af] using this)]
 exact cd hb
theorem Av {w:World}{X:Nat}{x:ar}{a:Option Addr}{n c:Nat}(hp:x.prev.length=32)(h:ac w X 50 (ah x a n c)):Sl 1 ai w (some ⟨X,2,none⟩) 32 x.prev:=by
 refine⟨hp,.inr ⟨X,2,rfl,fun i b hb=>⟨[.int .u8 b.toNat],rfl,rfl,fun j v hv => ?_⟩⟩⟩
 match j,hv with
 | 0,hv =>
  simp only[List.getElem?_cons_zero,Option.some.injEq]at hv
  subst hv
  have:=(ac.cell h (i+2)).trans (iN i b hb a n c)
  rwa [show i+2=2+i*1+0 by omega]at this
theorem bM (x:ar)(a:Option Addr)(n c:Nat):(ah x a n c).toArray.all (·.oneCell')=true:=by
 have h:=je x.prev
 simp only[List.all_toArray]at h
 simp only[ah,List.all_toArray,List.all_cons,List.all_append,h]
 rfl
theorem nr (a:Option Addr)(n c:Nat)(l:List ar)(w:World)(hn:n<=100000)(hi:dV w)(h:Sl 35 aq w a n l)(hd:∀x ∈ l,x.data.length<=100000) :
  Calls Tryz.prog 19 #[.slice a n c] w fun e w'=>e=.returned (br (bR l))/\Below w.heap.size w w':=by
 have H:=aa h
 have HI:=aa hi
 have hlen:l.length=n:=h.len
 have HLEN:=aa hlen
 clear h hi hlen
 obtain⟨D2,hD2,hdv2,hi2,ho2,hs2⟩:=ez (bR l) (dI l)
 have HV2:=aa hdv2
 have HI2:=aa hi2
 have HO2:=aa ho2
 have HS2:=aa hs2
 have hsz:Hid ((af (List.replicate 32 0)).toArray.size=32):=by simp[Hid,af]
 clear hD2 hdv2 hi2 ho2 hs2
 go_enter Tryz.func19,Tryz.ntmps19
 by_cases h0:n=0
 ·have hl0:l=[]:=List.eq_nil_of_length_eq_zero (by rw[HLEN.out];exact h0)
  subst h0
  go_upto_region 2 with (fail)
  obtain⟨D0,hD0⟩:=zg w.heap.size
  obtain⟨w1,hw1⟩:=zg (w.alloc (.cells zI 48))
  rw[<-hw1,<-hD0]
  have hd1:ac w1 D0 48 (af (List.replicate 32 0)):=by rw[hw1,hD0];exact ak _ rfl
  have hB1:Below w.heap.size w w1:=by rw[hw1];exact(Below.refl _ w).alloc (Nat.le_refl _) _
  have HD1:=aa hd1
  have HD0:=aa hD0
  clear hw1 hD0 hd1
  go_wp2_with fail
  have hT:=oe ⟨#[110,111,110,101]⟩ none 0 0 [] w1 (by decide) om (HI.out.below hB1) (Sl.nil _ _ _ _)
  have hdv3:br (ik (ByteArray.mk #[110,111,110,101]).data.toList [])=.agg D2:=by rw[<-HV2.out,hl0];rfl
  rw[hdv3]at hT
  refine hT.mono ?_
  rintro e w7 ⟨rfl,hB7⟩
  have hb7:=hB1.trans (hB7.mono hB1.size)
  have HD7:=aa (HD1.out.below hB7 HD1.out.lt)
  clear hT hdv3 hB7 hl0
  go_wp2_with (refine wpList_store_row rfl 48 (.tmp 2) (.tmp 9) rfl D0 D2 ?e1 ?e2 48 _ HD7.out HI2.out ?e3 HO2.out ?_;(case e1=>rfl);(case e2=>rfl);(case e3=>exact hsz.out.trans HS2.out.symm))
  refine bodyPost_ret (results_cell_row rfl _ _ D0 48 D2 (0,0) _ rfl (setRow_heap _ _ _ _ _ _ HD7.out) Tryz.underlying48 rfl HI2.out) rfl ?_
  exact⟨by rw[HV2.out],below_setRow hb7 (by rw[HD0.out];exact Nat.le_refl _) _⟩
 ·obtain⟨k,hk⟩:=zg (n-1)
  have hk1:(n:Int)-1=(k:Int):=om
  have k1:(k:Int)<(n:Int):=om
  have k2:¬(n:Int)=0:=om
  obtain⟨x,hx⟩:=av HLEN.out (show k<n by omega)
  have hlast:l.getLast? = some x:=by rw[List.getLast?_eq_getElem?,HLEN.out,<-hk];exact hx
  have hxd:=hd x (List.mem_of_getElem? hx)
  obtain⟨b,off,rfl,L,hLl,⟨da,dn,dc,rfl,hp,hi1,hi2,hdc,hsd⟩,hcell⟩:∃b off,a=some ⟨b,off,none⟩/\∃L:List Value,L.length=35/\aq w L x/\∀j v,L[j]? = some v->w.cell? ⟨b,off+k*35+j,none⟩=some v:=by
   rcases H.out.2 with h|⟨b,off,h,hc⟩
   ·exact absurd h h0
   ·obtain⟨L,g1,g2,g3⟩:=hc k x hx
    exact⟨b,off,h,L,g1,g2,g3⟩
  have hhd:bR l=ik oh (aL (cM x)):=by unfold bR;rw[hlast]
  have HHD:=aa hhd
  have hdn:x.data.length=dn:=hsd.len
  clear hhd hlast hx hk h0 hd
  go_upto_region 3 with (fail)
  obtain⟨D0,hD0⟩:=zg w.heap.size
  obtain⟨w1,hw1⟩:=zg (w.alloc (.cells zI 48))
  rw[<-hw1,<-hD0]
  have hd1:ac w1 D0 48 (af (List.replicate 32 0)):=by rw[hw1,hD0];exact ak _ rfl
  have hB1:Below w.heap.size w w1:=by rw[hw1];exact(Below.refl _ w).alloc (Nat.le_refl _) _
  have hr1:w1.rangeAt b (off+k*35) (ah x da dn dc):=fun j v hv=>ag hB1 (hcell j v hv)
  have HD1:=aa hd1
  have HD0:=aa hD0
  have HR1:=aa hr1
  have hi37:(Tryz.prog.info? 50).map (·.size)=some (ah x da dn dc).length:=by rw[bh hp];exact jg
  have HI37:=aa hi37
  have hi37':(Tryz.prog.info? 50).map (·.size)=some (ah x da dn dc).toArray.size:=by rw[List.size_toArray];exact hi37
  have HI37a:=aa hi37'
  have HONE:=aa (bM x da dn dc)
  have HLL:=aa (bh hp da dn dc)
  have HSD:=aa hsd
  have HDN:=aa hdn
  clear hw1 hD0 hd1 hr1 hcell hi37 hi37' hsd hdn
  go_upto_region 4 with (first|(refine wpList_load_mid rfl 50 (.tmp 14) rfl b (off+k*35) ?e1 (ah x da dn dc) _ HR1.out Tryz.underlying50 rfl HI37.out ?_;(case e1=>rfl))|(refine wpList_store_row rfl 50 (.tmp 3) (.tmp 15) rfl w1.heap.size (ah x da dn dc).toArray ?e2 ?e3 50 zH (heap_alloc_new w1 _) HI37a.out ?e4 HONE.out ?_;(case e2=>rfl);(case e3=>rfl);(case e4=>exact HLL.out.symm)))
  have hx2:ac ((w1.alloc (.cells zH 50)).setRow w1.heap.size (ah x da dn dc).toArray) w1.heap.size 50 (ah x da dn dc):=setRow_heap _ _ _ _ _ _ (heap_alloc_new w1 _)
  have hS2:Below w1.heap.size w1 ((w1.alloc (.cells zH 50)).setRow w1.heap.size (ah x da dn dc).toArray):=bf _ _ _
  generalize (w1.alloc (.cells zH 50)).setRow w1.heap.size (ah x da dn dc).toArray=w2 at *
  obtain⟨X,hX⟩:=zg w1.heap.size
  rw[<-hX]at hx2 ⊢
  have hb2:=hB1.trans (hS2.mono hB1.size)
  have HD2:=aa (HD1.out.below hS2 HD1.out.lt)
  have hx3:ac (World.drew w2) X 50 (ah x da dn dc):=hx2
  have hb3:Below w.heap.size w (World.drew w2):=hb2.drew
  have hd3:ac (World.drew w2) D0 48 (af (List.replicate 32 0)):=HD2.out
  clear hX hS2 hx2 hb2 HD2
  refine bZ (fun W=>ac W X 50 (ah x da dn dc)) 19 kr ?_
  change bT _ _ _ _ _ _ _ _ _ (World.drew w2)
  generalize World.drew w2=w3 at *
  simp only[Act.put]
  refine aM 0 (.pointer (some ⟨X,0,none⟩)) rfl kr kr kr kr (fun _ _ _ h=>h) rfl (fun W (h:ac W X 50 (ah x da dn dc)) => ?y0) hx3 ?_
  case y0=>(go_simp;try rfl)
  try simp only[Act.put,zA]
  refine aM 1 (.int .i64 x.node) rfl kr kr kr kr (fun _ _ _ h=>h) rfl (fun W (h:ac W X 50 (ah x da dn dc)) => ?y1) hx3 ?_
  case y1=>(have c0:=(ac.cell h 0).trans (dj x da dn dc);go_simp;try rfl)
  try simp only[Act.put]
  refine aM 3 (.pointer (some ⟨X,1,none⟩)) rfl kr kr kr kr (fun _ _ _ h=>h) rfl (fun W (h:ac W X 50 (ah x da dn dc)) => ?y3) hx3 ?_
  case y3=>(go_simp;try rfl)
  try simp only[Act.put]
  refine aM 4 (.int .i64 x.no) rfl kr kr kr kr (fun _ _ _ h=>h) rfl (fun W (h:ac W X 50 (ah x da dn dc)) => ?y4) hx3 ?_
  case y4=>(have c1:=(ac.cell h 1).trans (fi x da dn dc);go_simp;try rfl)
  try simp only[Act.put]
  refine aM 6 (.pointer (some ⟨X,2,none⟩)) rfl kr kr kr kr (fun _ _ _ h=>h) rfl (fun W (h:ac W X 50 (ah x da dn dc)) => ?y6) hx3 ?_
  case y6=>(go_simp;try rfl)
  try simp only[Act.put]
  refine aM 7 (.slice (some ⟨X,2,none⟩) 32 32) rfl kr kr kr kr (fun _ _ _ h=>h) rfl (fun W (h:ac W X 50 (ah x da dn dc)) => ?y7) hx3 ?_
  case y7=>(go_simp;try rfl)
  try simp only[Act.put]
  refine aM 9 (.pointer (some ⟨X,34,none⟩)) rfl kr kr kr kr (fun _ _ _ h=>h) rfl (fun W (h:ac W X 50 (ah x da dn dc)) => ?y9) hx3 ?_
  case y9=>(go_simp;try rfl)
  try simp only[Act.put]
  refine aM 10 (.slice da dn dc) rfl kr kr kr kr (fun _ _ _ h=>h) rfl (fun W (h:ac W X 50 (ah x da dn dc)) => ?y10) hx3 ?_
  case y10=>(have c34:=(ac.cell h 34).trans (em hp da dn dc);go_simp;try rfl)
  try simp only[Act.put]
  have hx_w3:=hx3
  have hb_w3:=hb3
  have hd_w3:=hd3
  clear hx3 hb3 hd3
  refine aC 2 kr rfl rfl ?_
  unfold Oper.wp
  go_simp
  refine(kD x.node w3).mono ?_
  rintro e w4 ⟨rfl,hBw4⟩
  have hx_w4:=hx_w3.below hBw4 hx_w3.lt
  have hb_w4:=hb_w3.trans (hBw4.mono hb_w3.size)
  have hd_w4:=hd_w3.below hBw4 hd_w3.lt
  clear hx_w3 hb_w3 hd_w3 hBw4
  refine⟨hx_w4,?_⟩
  try simp only[Act.put,zA]
  refine aC 5 kr rfl rfl ?_
  unfold Oper.wp
  go_simp
  refine(kD x.no w4).mono ?_
  rintro e w5 ⟨rfl,hBw5⟩
  have hx_w5:=hx_w4.below hBw5 hx_w4.lt
  have hb_w5:=hb_w4.trans (hBw5.mono hb_w4.size)
  have hd_w5:=hd_w4.below hBw5 hd_w4.lt
  clear hx_w4 hb_w4 hd_w4 hBw5
  refine⟨hx_w5,?_⟩
  try simp only[Act.put,zA]
  refine aC 8 kr rfl rfl ?_
  unfold Oper.wp
  go_simp
  refine(pL (some ⟨X,2,none⟩) 32 32 x.prev w5 (Av hp hx_w5)).mono ?_
  rintro e w6 ⟨rfl,hBw6⟩
  have hx_w6:=hx_w5.below hBw6 hx_w5.lt
  have hb_w6:=hb_w5.trans (hBw6.mono hb_w5.size)
  have hd_w6:=hd_w5.below hBw6 hd_w5.lt
  clear hx_w5 hb_w5 hd_w5 hBw6
  refine⟨hx_w6,?_⟩
  try simp only[Act.put,zA]
  refine aC 11 kr rfl rfl ?_
  unfold Oper.wp
  go_simp
  refine(pL da dn dc x.data w6 (HSD.out.below ai.keeps hb_w6)).mono ?_
  rintro e w7 ⟨rfl,hBw7⟩
  have hx_w7:=hx_w6.below hBw7 hx_w6.lt
  have hb_w7:=hb_w6.trans (hBw7.mono hb_w6.size)
  have hd_w7:=hd_w6.below hBw7 hd_w6.lt
  clear hx_w6 hb_w6 hd_w6 hBw7
  refine⟨hx_w7,?_⟩
  try simp only[Act.put,zA]
  have hBa:=(Below.refl _ w7).alloc (Nat.le_refl _) (.cells #[.int .i64 1,.int .i64 x.node,.string ⟨#[]⟩,.slice none 0 0,.int .i64 1,.int .i64 x.no,.string ⟨#[]⟩,.slice none 0 0,.int .i64 2,.int .i64 0,.string (aw x.prev),.slice none 0 0,.int .i64 2,.int .i64 0,.string (aw x.data),.slice none 0 0] 88)
  obtain⟨G,hG⟩:=zg w7.heap.size
  have hrg:=ak (w:=w7) (.cells #[.int .i64 1,.int .i64 x.node,.string ⟨#[]⟩,.slice none 0 0,.int .i64 1,.int .i64 x.no,.string ⟨#[]⟩,.slice none 0 0,.int .i64 2,.int .i64 0,.string (aw x.prev),.slice none 0 0,.int .i64 2,.int .i64 0,.string (aw x.data),.slice none 0 0] 88) hG
  have hvr:=mj (w7.alloc (.cells #[.int .i64 1,.int .i64 x.node,.string ⟨#[]⟩,.slice none 0 0,.int .i64 1,.int .i64 x.no,.string ⟨#[]⟩,.slice none 0 0,.int .i64 2,.int .i64 0,.string (aw x.prev),.slice none 0 0,.int .i64 2,.int .i64 0,.string (aw x.data),.slice none 0 0] 88)) G x hi1 hi2 hrg
  have HX8:=aa (hx_w7.alloc (.cells #[.int .i64 1,.int .i64 x.node,.string ⟨#[]⟩,.slice none 0 0,.int .i64 1,.int .i64 x.no,.string ⟨#[]⟩,.slice none 0 0,.int .i64 2,.int .i64 0,.string (aw x.prev),.slice none 0 0,.int .i64 2,.int .i64 0,.string (aw x.data),.slice none 0 0] 88))
  have hb_w8:=hb_w7.alloc hb_w7.size (.cells #[.int .i64 1,.int .i64 x.node,.string ⟨#[]⟩,.slice none 0 0,.int .i64 1,.int .i64 x.no,.string ⟨#[]⟩,.slice none 0 0,.int .i64 2,.int .i64 0,.string (aw x.prev),.slice none 0 0,.int .i64 2,.int .i64 0,.string (aw x.data),.slice none 0 0] 88)
  have hd_w8:=hd_w7.alloc (.cells #[.int .i64 1,.int .i64 x.node,.string ⟨#[]⟩,.slice none 0 0,.int .i64 1,.int .i64 x.no,.string ⟨#[]⟩,.slice none 0 0,.int .i64 2,.int .i64 0,.string (aw x.prev),.slice none 0 0,.int .i64 2,.int .i64 0,.string (aw x.data),.slice none 0 0] 88)
  have HB8:=aa hb_w8
  have HD8:=aa hd_w8
  have HVR:=aa hvr
  have HG:=aa hG
  clear hBa hG hrg hvr hx_w7 hb_w7 hd_w7 hb_w8 hd_w8
  refine aC 12 kr rfl rfl ?_
  unfold Oper.wp
  go_simp
  rw[<-HG.out]
  refine⟨HX8.out,?_⟩
  try simp only[Act.put,zA]
  generalize w7.alloc (.cells #[.int .i64 1,.int .i64 x.node,.string ⟨#[]⟩,.slice none 0 0,.int .i64 1,.int .i64 x.no,.string ⟨#[]⟩,.slice none 0 0,.int .i64 2,.int .i64 0,.string (aw x.prev),.slice none 0 0,.int .i64 2,.int .i64 0,.string (aw x.data),.slice none 0 0] 88)=w8 at *
  clear HG
  refine aC 13 kr rfl rfl ?_
  unfold Oper.wp
  go_simp
  refine(we (some ⟨G,0,none⟩) 4 4 w8).mono ?_
  rintro e w9 ⟨rfl,hB9⟩
  have HX9:=aa (HX8.out.below hB9 HX8.out.lt)
  have HB9:=aa (HB8.out.trans (hB9.mono HB8.out.size))
  have HD9:=aa (HD8.out.below hB9 HD8.out.lt)
  have HVR9:=aa (VR.below 1 _ _ _ _ hB9 HVR.out)
  clear hB9 HX8 HB8 HD8 HVR
  refine⟨HX9.out,?_⟩
  try simp only[Act.put,zA]
  refine aC 14 kr rfl rfl ?_
  unfold Oper.wp
  go_simp
  refine(gP 1 om (cM x) _ rfl _ _ _ _ w9 (by have:=gJ x hi1 hi2 hp hxd;omega) HVR9.out).mono ?_
  have hel:=gJ x hi1 hi2 hp hxd
  have hhd:=HHD.out
  obtain⟨E,hE⟩:=zg (aL (cM x))
  rw[<-hE]at hel hhd ⊢
  have HHD2:=aa hhd
  clear hhd hE HHD
  rintro e w10 ⟨⟨va,vc,rfl,hown⟩,hB10⟩
  obtain⟨_,hvc,hsv⟩:=d8 (R:=ai) hown E rfl (fun i x hx=>⟨_,cd hx,rfl⟩)
  have HSV:=aa hsv
  have hx10:=HX9.out.below hB10 HX9.out.lt
  have hb10:=HB9.out.trans (hB10.mono HB9.out.size)
  have hd10:=HD9.out.below hB10 HD9.out.lt
  have HX10:=aa hx10
  clear hown hsv hB10 HX9 HB9 HD9 HVR9 hx10
  refine⟨HX10.out,?_⟩
  try simp only[Act.put,zA]
  refine aC 15 kr rfl rfl ?_
  unfold Oper.wp
  go_simp
  refine⟨HX10.out,?_⟩
  try simp only[Act.put,zA]
  refine aM 16 (.slice va E.length vc) rfl kr kr kr kr (fun _ _ _ h=>h) rfl (fun W (h:ac W X 50 (ah x da dn dc)) => ?y16) HX10.out ?_
  case y16=>(go_simp;try rfl)
  try simp only[Act.put,zA]
  refine aM 17 (.int .i64 0) rfl kr kr kr kr (fun _ _ _ h=>h) rfl (fun W (h:ac W X 50 (ah x da dn dc)) => ?y17) HX10.out ?_
  case y17=>(go_simp;try rfl)
  try simp only[Act.put]
  refine aC 18 kr rfl rfl ?_
  unfold Oper.wp
  go_simp
  refine⟨HX10.out,?_⟩
  try simp only[Act.put,zA]
  refine aC 19 kr rfl rfl ?_
  unfold Oper.wp
  go_simp
  refine cV kr ?_
  have HD10:=aa hd10
  clear hd10
  go_wp2_with fail
  have hT:=oe ⟨#[108,105,110,107]⟩ va E.length vc E w10 (by decide) om (HI.out.below hb10) HSV.out
  have hdv3:br (ik (ByteArray.mk #[108,105,110,107]).data.toList E)=.agg D2:=by rw[<-HV2.out,HHD2.out];rfl
  rw[hdv3]at hT
  refine hT.mono ?_
  rintro e w11 ⟨rfl,hB11⟩
  have hb11:=hb10.trans (hB11.mono hb10.size)
  have HD11:=aa (HD10.out.below hB11 HD10.out.lt)
  clear hT hdv3 hB11
  go_wp2_with (refine wpList_store_row rfl 48 (.tmp 2) (.tmp 35) rfl D0 D2 ?e1 ?e2 48 _ HD11.out HI2.out ?e3 HO2.out ?_;(case e1=>rfl);(case e2=>rfl);(case e3=>exact hsz.out.trans HS2.out.symm))
  refine bodyPost_ret (results_cell_row rfl _ _ D0 48 D2 (0,0) _ rfl (setRow_heap _ _ _ _ _ _ HD11.out) Tryz.underlying48 rfl HI2.out) rfl ?_
  exact⟨by rw[HV2.out],below_setRow hb11 (by rw[HD0.out];exact Nat.le_refl _) _⟩
def bv : Nat->List UInt8->Option (Nat × List UInt8)
 | _,[]=>none
 | i,c::r=>if (i≠0/\c.toNat=0)\/(9<=i/\1<c.toNat) then none else if c.toNat<128 then some (c.toNat,r) else match bv (i+1) r with
  | none=>none
  | some (u,s)=>some (c.toNat%128+128*u,s)
def dT (u:Nat):Int:=if u%2=0 then ((u/2:Nat):Int) else -((u/2:Nat):Int)-1
def bj (f:List UInt8->Option (aT × List UInt8)):Nat->List UInt8->Option (List aT × List UInt8)
 | 0,r=>some ([],r)
 | n+1,r=>match f r with
  | none=>none
  | some (v,s)=>match bj f n s with
   | none=>none
   | some (vs,t)=>some (v::vs,t)
def cx (r:List UInt8):Option (Nat × List UInt8):=match bv 0 r with
 | none=>none
 | some (n,s)=>if n<=s.length then some (n,s) else none
def aV : Nat->List UInt8->Option (aT × List UInt8)
 | _,[]=>none
 | 0,c::r=>if c.toNat=1 then (match bv 0 r with
   | none=>none
   | some (u,s)=>some (.int (dT u),s))
  else if c.toNat=2 then (match cx r with
   | none=>none
   | some (n,s)=>some (.text (s.take n),s.drop n))
  else none
 | d+1,c::r=>if c.toNat=1 then (match bv 0 r with
   | none=>none
   | some (u,s)=>some (.int (dT u),s))
  else if c.toNat=2 then (match cx r with
   | none=>none
   | some (n,s)=>some (.text (s.take n),s.drop n))
  else if c.toNat=3 then (match cx r with
   | none=>none
   | some (n,s)=>match bj (aV d) n s with
    | none=>none
    | some (vs,t)=>some (.list vs,t))
  else none
def ct (b:List UInt8):Option aT:=match aV 16 b with
 | some (v,[])=>some v
 | _=>none
theorem mN {u:Nat}(h:u<256):(UInt8.ofNat u).toNat=u:=by simp[UInt8.toNat_ofNat'];omega
theorem wg (u:Nat):∀(i:Nat) (r:List UInt8),i<=9->(i=0\/u≠0)->u<2 ^ (64-7*i)->bv i (cB u++r)=some (u,r):=by
 induction u using Nat.strongRecOn with
 | ind u ih =>
  intro i r hi h0 hu
  by_cases hs:u<128
  ·rw[gU hs]
   show bv i (UInt8.ofNat u::r)=_
   have e:=mN (show u<256 by omega)
   unfold bv
   rw[e,if_neg,if_pos hs]
   rintro(⟨h1,h2⟩|⟨h1,h2⟩)
   ·rcases h0 with h0|h0
    ·exact h1 h0
    ·exact h0 h2
   ·have:i=9:=om
    subst this
    have:u<2:=by simpa using hu
    omega
  ·rw[jf hs]
   show bv i (UInt8.ofNat (u%128+128)::(cB (u/128)++r))=_
   have e:=mN (show u%128+128<256 by omega)
   have hi8:i<9:=by
    rcases Nat.lt_or_ge i 9 with h|h
    ·exact h
    ·have:i=9:=om
     subst this
     have:u<2:=by simpa using hu
     omega
   have hp:2 ^ (64-7*i)=128*2 ^ (64-7*(i+1)):=by
    rw[show 64-7*i=7+(64-7*(i+1)) by omega,Nat.pow_add]
   have ih':=ih (u/128) om (i+1) r om (.inr om) (by rw[hp]at hu;omega)
   unfold bv
   rw[e,if_neg om,if_neg om,ih']
   simp only[Option.some.injEq,Prod.mk.injEq,and_true]
   omega
theorem rd {u:Nat}(h:u<18446744073709551616)(r:List UInt8):bv 0 (cB u++r)=some (u,r):=wg u 0 r om (.inl rfl) (by simpa using h)
theorem Aw {n:Int}(_h:bQ n):dT (eA n)=n:=by
 unfold dT eA
 split<;>split<;>omega
theorem BG {n:Int}(h:bQ n):eA n<18446744073709551616:=by unfold eA;obtain⟨a,b⟩:=h;split<;>omega
theorem re {n:Nat}{r:List UInt8}(h:n<=r.length)(h2:n<18446744073709551616):cx (cB n++r)=some (n,r):=by
 unfold cx
 rw[rd h2]
 exact if_pos h
inductive ns : Nat->aT->Prop where
 | int {d:Nat} {n:Int} (h:bQ n):ns d (.int n)
 | text {d:Nat} {s:List UInt8} (h:s.length<18446744073709551616):ns d (.text s)
 | list {d:Nat} {l:List aT} (h:l.length<18446744073709551616) (hl:∀v ∈ l,ns d v):ns (d+1) (.list l)
theorem yH (v:aT):1<=(aL v).length:=by cases v<;>simp[aL]
theorem Ay (l:List aT):l.length<=(bP l).length:=by
 induction l with
 | nil=>simp
 | cons v l ih=>have:=yH v;simp[bP];omega
theorem wh {f:List UInt8->Option (aT × List UInt8)}(l:List aT)(r:List UInt8)(h:∀v ∈ l,∀s,f (aL v++s)=some (v,s)):bj f l.length (bP l++r)=some (l,r):=by
 induction l with
 | nil=>simp[bj,bP]
 | cons v l ih =>
  have h1:=h v (by simp) (bP l++r)
  have h2:=ih (fun x hx=>h x (by simp[hx]))
  simp only[List.length_cons,bP,List.append_assoc,bj,h1,h2]
theorem yI {d:Nat}{v:aT}(h:ns d v):∀r,aV d (aL v++r)=some (v,r):=by
 induction h with
 | @int d n h =>
  intro r
  simp only[aL,List.cons_append]
  cases d<;>simp[aV,rd (BG h),Aw h]
 | @text d s h =>
  intro r
  simp only[aL,List.cons_append,List.append_assoc]
  have h1:cx (cB s.length++(s++r))=some (s.length,s++r):=re (by simp) h
  cases d<;>simp[aV,h1]
 | @list d l h hl ih =>
  intro r
  simp only[aL,List.cons_append,List.append_assoc]
  have h1:cx (cB l.length++(bP l++r))=some (l.length,bP l++r):=re (by have:=Ay l;simp;omega) h
  have h2:=wh l r (fun v hv s=>ih v hv s)
  simp[aV,h1,h2]
theorem rf {v:aT}(h:ns 16 v):ct (aL v)=some v:=by
 have:=yI h []
 rw[List.append_nil]at this
 unfold ct
 rw[this]
def bk : aT->Int
 | .int n=>n
 | _=>0
def aI : aT->List UInt8
 | .text s=>s
 | _=>[]
def aP (b:List UInt8):Option ar:=match ct b with
 | some (.list [p,q,r,s])=>if (aI r).length=32/\aL (cM ⟨bk p,bk q,aI r,aI s⟩)=b then some ⟨bk p,bk q,aI r,aI s⟩ else none
 | _=>none
theorem ol {x:ar}(h1:bQ x.node)(h2:bQ x.no)(hp:x.prev.length=32)(hd:x.data.length<18446744073709551616):ns 16 (cM x):=by
 refine .list (by simp) fun v hv => ?_
 simp only[List.mem_cons,List.not_mem_nil,or_false]at hv
 rcases hv with rfl|rfl|rfl|rfl
 ·exact .int h1
 ·exact .int h2
 ·exact .text om
 ·exact .text hd
theorem sI {x:ar}(h1:bQ x.node)(h2:bQ x.no)(hp:x.prev.length=32)(hd:x.data.length<18446744073709551616):aP (aL (cM x))=some x:=by
 have h:=rf (ol h1 h2 hp hd)
 unfold aP
 rw[h]
 simp[cM,bk,aI,hp]
def aK : List (List UInt8)->List ar × Bool
 | []=>([],true)
 | b::rs=>match aP b with
  | none=>([],false)
  | some x=>(x::(aK rs).1,(aK rs).2)
structure az (R:Nat)(W W':World):Prop where
 os:W'.os=W.os
 tape:W'.tape=W.tape
 output:W'.output=W.output
 size:W.heap.size<=W'.heap.size
 block:∀k,k<W.heap.size->k≠R->W'.heap[k]? = W.heap[k]?
theorem az.refl (R:Nat)(W:World):az R W W:=⟨rfl,rfl,rfl,Nat.le_refl _,fun _ _ _=>rfl⟩
theorem az.of_below {R:Nat}{W W':World}(h:Below W.heap.size W W'):az R W W':=⟨h.os,h.tape,h.output,h.size,fun k hk _=>h.block k hk⟩
theorem az.trans {R:Nat}{A B C:World}(h:az R A B)(k:az R B C):az R A C:=
 ⟨k.os.trans h.os,k.tape.trans h.tape,k.output.trans h.output,Nat.le_trans h.size k.size,fun i hi hne=>(k.block i (Nat.lt_of_lt_of_le hi h.size) hne).trans (h.block i hi hne)⟩
theorem az.setCell {R:Nat}{A B:World}(h:az R A B){p:Addr}(hp:p.block=R)(v:Value):az R A (B.setCell p v):=
 h.trans ⟨((Below.refl 0 B).setCell (p:=p) (Nat.zero_le _) v).os,((Below.refl 0 B).setCell (p:=p) (Nat.zero_le _) v).tape,((Below.refl 0 B).setCell (p:=p) (Nat.zero_le _) v).output,by simp,fun k _ hne=>Below.heap_setCell _ _ _ k (by rw[hp];exact hne)⟩
theorem az.alloc {R:Nat}{A B:World}(h:az R A B)(o:Obj):az R A (B.alloc o):=h.trans (.of_below ((Below.refl _ B).alloc (Nat.le_refl _) o))
theorem az.drew {R:Nat}{A B:World}(h:az R A B):az R A B.drew:=h.trans (.of_below ((Below.refl _ B).drew))
theorem az.setNew {R:Nat}{A B:World}(h:az R A B){p:Addr}(hp:A.heap.size<=p.block)(v:Value):az R A (B.setCell p v):=
 ⟨((Below.refl 0 B).setCell (p:=p) (Nat.zero_le _) v).os.trans h.os,((Below.refl 0 B).setCell (p:=p) (Nat.zero_le _) v).tape.trans h.tape,((Below.refl 0 B).setCell (p:=p) (Nat.zero_le _) v).output.trans h.output,by simpa using h.size,fun k hk hne=>(Below.heap_setCell _ _ _ k om).trans (h.block k hk hne)⟩
theorem az.grown {R:Nat}{A B C:World}{g:Option Nat}(h:az R A B)(hg:B.grownBy C g)(hn:∀q,g=some q->A.heap.size<=q):az R A C:=
 ⟨hg.os.trans h.os,hg.tape.trans h.tape,hg.output.trans h.output,Nat.le_trans h.size hg.size,fun k hk hne=>(hg.block k (Nat.lt_of_lt_of_le hk h.size) (fun e=>by have:=hn k e.symm;omega)).trans (h.block k hk hne)⟩
theorem az.below {R B:Nat}{W W':World}(h:az R W W')(hR:B<=R)(hB:B<=W.heap.size):Below B W W':=
 ⟨h.os,h.tape,h.output,h.size,fun k hk=>h.block k om om⟩
theorem az.row {R:Nat}{W W':World}(h:az R W W'){X:Nat}{t:TypeId}{L:List Value}(hX:X≠R)(hr:ac W X t L):ac W' X t L:=(h.block X hr.lt hX).trans hr
theorem az.own {R:Nat}{W W':World}{base:Nat}{e:TypeId}{size n:Nat}{v:Value}{xs:List Value}(h:az R W W')(ho:W.ownsRow base e size v n xs)(hR:R<base):W'.ownsRow base e size v n xs:=
 cZ ho fun g hg=>h.block g (ho.lt g hg).2 (by have:=bU ho g hg;omega)
def ce (W:World)(R:Nat)(l:List UInt8):Prop:=∃a n c,ac W R 161 [.slice a n c]/\n<=c/\Sl 1 ai W a n l/\(n=0\/∀ad,a=some ad->ad.block<R)
theorem Sl.older {B:Nat}{W W':World}{a:Option Addr}{n:Nat}{l:List UInt8}(hl:Sl 1 ai W a n l)(ho:n=0\/∀ad,a=some ad->ad.block<B)(hB:∀k,k<B->W'.heap[k]? = W.heap[k]?):Sl 1 ai W' a n l:=by
 obtain⟨h1,h2⟩:=hl
 refine⟨h1,?_⟩
 rcases h2 with h2|⟨b,off,ha,hc⟩
 ·exact .inl h2
 ·rcases ho with h0|ho
  ·exact .inl h0
  refine .inr ⟨b,off,ha,fun i x hx => ?_⟩
  obtain⟨vs,hk,hv,hcell⟩:=hc i x hx
  refine⟨vs,hk,hv,fun j v hj => ?_⟩
  rw[World.cell?_of_block (hB b (ho _ ha))]
  exact hcell j v hj
theorem ce.lt {R:Nat}{W:World}{l:List UInt8}(h:ce W R l):R<W.heap.size:=by
 obtain⟨a,m,c,h1,_⟩:=h
 exact h1.lt
theorem ce.keep {R:Nat}{W W':World}{l:List UInt8}(h:ce W R l)(hk:∀k,k<=R->W'.heap[k]? = W.heap[k]?):ce W' R l:=by
 obtain⟨a,m,c,h1,h2,h3,h4⟩:=h
 exact⟨a,m,c,(hk R (Nat.le_refl _)).trans h1,h2,Sl.older h3 h4 (fun k hlt=>hk k om),h4⟩
theorem ce.below {R:Nat}{W W':World}{l:List UInt8}(h:ce W R l)(hb:Below W.heap.size W W'):ce W' R l:=h.keep fun k hk=>hb.block k (by have:=h.lt;omega)
theorem ce.moves {R X:Nat}{W W':World}{l:List UInt8}(h:ce W R l)(hm:az X W W')(hX:R<X):ce W' R l:=h.keep fun k hk=>hm.block k (by have:=h.lt;omega) om
theorem ce.grown {R base n:Nat}{W W':World}{e:TypeId}{size:Nat}{v:Value}{xs:List Value}{l:List UInt8}(h:ce W R l)(ho:W.ownsRow base e size v n xs)(hR:R<base)(hg:W.grownBy W' v.ownBlock):ce W' R l:=
 h.keep fun k hk=>hg.block k (by have:=h.lt;omega) (fun e1=>by have:=bU ho k e1.symm;omega)
def cu (A:Nat->Prop):Nat->World->List Value->aT->Prop
 | _,_,vs,.int n=>bQ n/\vs=[.int .i64 1,.int .i64 n,.string ⟨#[]⟩,.slice none 0 0]
 | _,_,vs,.text s=>vs=[.int .i64 2,.int .i64 0,.string (aw s),.slice none 0 0]
 | 0,_,_,.list _=>False
 | d+1,w,vs,.list l=>∃a n c,vs=[.int .i64 3,.int .i64 0,.string ⟨#[]⟩,.slice a n c]/\n<=c/\(∀ad,a=some ad->n=0\/A ad.block)/\Sl 4 (cu A d) w a n l
theorem Sl.mapR {α:Type}{k:Nat}{R R':World->List Value->α->Prop}{w w':World}{a:Option Addr}{n:Nat}{xs:List α}(h:Sl k R w a n xs)(hR:∀vs x,vs.length=k->x ∈ xs->R w vs x->R' w' vs x)(hc:∀b off,a=some ⟨b,off,none⟩->n≠0->∀i v,w.cell? ⟨b,i,none⟩=some v->w'.cell? ⟨b,i,none⟩=some v):Sl k R' w' a n xs:=by
 obtain⟨h1,h2⟩:=h
 refine⟨h1,?_⟩
 rcases h2 with h2|⟨b,off,ha,h3⟩
 ·exact .inl h2
 ·by_cases h0:n=0
  ·exact .inl h0
  refine .inr ⟨b,off,ha,fun i x hx => ?_⟩
  obtain⟨vs,hk,hr,hv⟩:=h3 i x hx
  exact⟨vs,hk,hR vs x hk (List.mem_of_getElem? hx) hr,fun j v hj=>hc b off ha h0 _ v (hv j v hj)⟩
theorem cu.vr {A:Nat->Prop}:∀ {d:Nat} {W:World} {vs:List Value} {v:aT},cu A d W vs v->VR d W vs v
 | d,W,vs,.int n,h=>by
  have h':bQ n/\vs=[.int .i64 1,.int .i64 n,.string ⟨#[]⟩,.slice none 0 0]:=by cases d<;>simpa only[cu] using h
  cases d<;>exact⟨h'.1,none,0,h'.2⟩
 | d,W,vs,.text s,h=>by
  have h':vs=[.int .i64 2,.int .i64 0,.string (aw s),.slice none 0 0]:=by cases d<;>simpa only[cu] using h
  cases d<;>exact⟨none,0,h'⟩
 | 0,W,vs,.list l,h=>by simp only[cu]at h
 | d+1,W,vs,.list l,h=>by
  simp only[cu]at h
  obtain⟨a,n,c,h1,h2,_,h4'⟩:=h
  have h4:Sl 4 (cu A d) W a n l:=h4'
  exact⟨a,n,c,h1,h2,Sl.mapR h4 (fun _ _ _ _ h=>h.vr) (fun _ _ _ _ _ _ h=>h)⟩
theorem cu.keep {A A':Nat->Prop}{W W':World}(hA:∀k,A k->k<W.heap.size->A' k/\W'.heap[k]? = W.heap[k]?):∀ {d:Nat} {vs:List Value} {v:aT},cu A d W vs v->cu A' d W' vs v
 | d,vs,.int n,h=>by cases d<;>simpa only[cu] using h
 | d,vs,.text s,h=>by cases d<;>simpa only[cu] using h
 | 0,vs,.list l,h=>by simp only[cu]at h
 | d+1,vs,.list l,h=>by
  simp only[cu]at h ⊢
  obtain⟨a,n,c,h1,h2,h3,h4'⟩:=h
  have h4:Sl 4 (cu A d) W a n l:=h4'
  have hblk:∀b off,a=some ⟨b,off,none⟩->n≠0->A b/\b<W.heap.size:=fun b off ha hn=>by
   refine⟨by rcases h3 _ ha with h|h;exact absurd h hn;exact h,?_⟩
   rcases h4.2 with h5|⟨b',off',ha',h5⟩
   ·exact absurd h5 hn
   ·rw[ha]at ha'
    cases ha'
    obtain⟨x,hx⟩:=av h4.1 (Nat.pos_of_ne_zero hn)
    obtain⟨vs',hk,_,hv⟩:=h5 0 x hx
    match vs',hk with
    | v0::_,_ =>
     have hc:=hv 0 v0 rfl
     unfold World.cell? at hc
     cases hh:W.heap[b]? with
     | none=>simp[hh]at hc
     | some o=>exact lt_of_block hh
  refine⟨a,n,c,h1,h2,fun ad ha => ?_,?_⟩
  ·rcases h3 ad ha with h|h
   ·exact .inl h
   ·by_cases hn:n=0
    ·exact .inl hn
    ·rcases h4.2 with h5|⟨b,off,hb,_⟩
     ·exact absurd h5 hn
     ·rw[ha]at hb
      cases hb
      have:=hblk b off ha hn
      exact .inr (hA b this.1 this.2).1
  ·show Sl 4 (cu A' d) W' a n l
   refine Sl.mapR h4 (fun vs x _ _ hx=>cu.keep hA hx) (fun b off ha hn i v hc => ?_)
   have:=hblk b off ha hn
   rw[World.cell?_of_block (hA b this.1 this.2).2]
   exact hc
theorem cu.mono {A A':Nat->Prop}{W:World}{d:Nat}{vs:List Value}{v:aT}(h:cu A d W vs v)(hA:∀k,A k->k<W.heap.size->A' k):cu A' d W vs v:=h.keep fun k h1 h2=>⟨hA k h1 h2,rfl⟩
theorem gH {P:Program}{w:World}{o:Oper}{a:Act}{K:Act->World->Prop}{Q:Exit->Act->World->Prop}(s x:Operand)(t:TypeId)
  (ho:o.op=.call { callee:=.builtin .append,args:=#[s,x],argTypes:=#[t,t] })
  (base:Nat) (e:TypeId) (i:TypeInfo) (z:Value) (size bytes:Nat) (ht:P.underlying t=some (.slice e)) (hi:P.info? e=some i) (hz:i.zero=some z)
  (hsize:i.size=size) (hby:i.bytes=bytes) (hzs:z.cells.size=size) (hsz:0<size)
  (v:Value) (n:Nat) (xs:List Value) (hs:a.eval s=v) (hown:w.ownsRow base e size v n xs)
  (ad:Addr) (m c:Nat) (news:List Value) (hx:a.eval x=.slice (some ad) m c) (hl:news.length=m*size) (hnews:∀j u,news[j]? = some u->w.cell? (ad.add j)=some u) (h1:∀u ∈ news,u.oneCell'=true)
  (h63:n+m<=maxLen) (hbytes:(n+m)*bytes<=140737488355328) (hbase:base<=w.heap.size)
  (h:∀va vc w',w'.ownsRow base e size (.slice va (n+m) vc) (n+m) (xs++news)->w.grownBy w' v.ownBlock->((Value.slice va (n+m) vc).ownBlock=v.ownBlock\/(Value.slice va (n+m) vc).ownBlock=some w.heap.size)->K (a.put o.dst (.slice va (n+m) vc)) w'):o.wp P a w K Q:=by
 obtain⟨v',w',hr,h2,h3,_,h4⟩:=run_append_own_at (P:=P) w base t o.type e i z size bytes ht hi hz hsize hby hzs hsz v n xs hown ad m c news hl hnews h1 h63 hbytes hbase
 obtain⟨va,vc,rfl⟩:=ft h2
 unfold Oper.wp execOp
 simp only[ho,resolve,invoke,builtin,Sem.run_bind,Sem.run_pure,Result.andThen_ok,List.map_toArray,List.map_cons,List.map_nil,hs,hx,hr]
 exact h va vc w' h2 h3 h4
theorem gV {P:Program}{w:World}{ops:Array Oper}{rest:List Oper}{o:Oper}{a:Act}{Q:Exit->Act->World->Prop}(hgd:o.guard=none)(s x:Operand)(t:TypeId)
  (ho:o.op=.call { callee:=.builtin .append,args:=#[s,x],argTypes:=#[t,t] })
  (base:Nat) (e:TypeId) (i:TypeInfo) (z:Value) (size bytes:Nat) (ht:P.underlying t=some (.slice e)) (hi:P.info? e=some i) (hz:i.zero=some z)
  (hsize:i.size=size) (hby:i.bytes=bytes) (hzs:z.cells.size=size) (hsz:0<size)
  (v:Value) (n:Nat) (xs:List Value) (hs:a.eval s=v) (hown:w.ownsRow base e size v n xs)
  (ad:Addr) (m c:Nat) (news:List Value) (hx:a.eval x=.slice (some ad) m c) (hl:news.length=m*size) (hnews:∀j u,news[j]? = some u->w.cell? (ad.add j)=some u) (h1:∀u ∈ news,u.oneCell'=true)
  (h63:n+m<=maxLen) (hbytes:(n+m)*bytes<=140737488355328) (hbase:base<=w.heap.size)
  (h:∀va vc w',w'.ownsRow base e size (.slice va (n+m) vc) (n+m) (xs++news)->w.grownBy w' v.ownBlock->((Value.slice va (n+m) vc).ownBlock=v.ownBlock\/(Value.slice va (n+m) vc).ownBlock=some w.heap.size)->wpList P ops Q rest (a.put o.dst (.slice va (n+m) vc)) w'):wpList P ops Q (o::rest) a w:=
 wpList_plain hgd fun _ hK=>gH s x t ho base e i z size bytes ht hi hz hsize hby hzs hsz v n xs hs hown ad m c news hx hl hnews h1 h63 hbytes hbase fun va vc w' h2 h3 h4=>hK _ _ (h va vc w' h2 h3 h4)
def jA : PanicEntry:={ v:=.iface 31 (.int .i64 10),recovered:=false }
theorem fS (R:Nat)(b:Bool)(w:World) :
  Calls Tryz.prog 128 #[.pointer (some ⟨R,0,none⟩),.bool b] w fun e w'=>w=w'/\((b=true/\e=.returned (.tuple #[]))\/(b=false/\e=.panicked [jA])):=by
 go_enter Tryz.func128,Tryz.ntmps128
 cases b
 ·go_wp2
  exact⟨rfl,rfl,rfl⟩
 ·go_wp2
  refine bodyPost_end (by simp[results,Tryz.results128,go_sem];try rfl) rfl ?_
  exact⟨rfl,rfl⟩
theorem DV (W:World)(a:Option Addr)(m c n:Nat)(l:List UInt8)(h:Sl 1 ai W a m l)(hn:n<=m)(hc:m<=c) :
  ∃a',(Instr.slice 40 (.slice a m c) none (some (.int .i64 n)) (some (.int .i64 n))).run Tryz.prog W=.ok (.slice a' n n) W/\Sl 1 ai W a' n (l.take n)/\(∀q,a'=some q->a=some q):=by
 have h0:(0:Int)<=(n:Int):=om
 have h1:(n:Int)<=(c:Int):=om
 have h2:(n:Int)<=(n:Int):=om
 have hl:(l.take n).length=n:=by rw[List.length_take,h.1];omega
 rcases h.2 with hz|⟨b,off,rfl,hcell⟩
 ·have:n=0:=om
  subst this
  refine⟨a,?_,⟨hl,.inl rfl⟩,fun _ h=>h⟩
  go_simp
  try rfl
 ·refine⟨some ⟨b,off,none⟩,?_,⟨hl,.inr ⟨b,off,rfl,fun i x hx => ?_⟩⟩,fun _ h=>h⟩
  ·go_simp
   try (split<;>simp[Addr.add])
  ·rw[List.getElem?_take]at hx
   split at hx
   ·exact hcell i x hx
   ·cases hx
theorem wu (W:World)(a:Option Addr)(m c n:Nat)(l:List UInt8)(h:Sl 1 ai W a m l)(hn:n<=m)(hc:m<=c) :
  ∃a',(Instr.slice 40 (.slice a m c) (some (.int .i64 n)) none none).run Tryz.prog W=.ok (.slice a' (m-n) (c-n)) W/\Sl 1 ai W a' (m-n) (l.drop n)/\(∀q,a'=some q->∃p,a=some p/\p.block=q.block):=by
 have h0:(0:Int)<=(n:Int):=om
 have h1:(n:Int)<=(m:Int):=om
 have hl:(l.drop n).length=m-n:=by rw[List.length_drop,h.1]
 by_cases hcn:c=n
 ·refine⟨a,?_,⟨hl,.inl om⟩,fun q hq=>⟨q,hq,rfl⟩⟩
  subst hcn
  have hm:m=c:=om
  subst hm
  go_simp
  try rfl
 ·rcases h.2 with hz|⟨b,off,rfl,hcell⟩
  ·have:n=0:=om
   subst this
   refine⟨a.map (·.add (0*1)),?_,⟨hl,.inl om⟩,fun q hq => ?_⟩
   rotate_left
   ·cases a with
    | none=>cases hq
    | some p=>cases hq;exact⟨p,rfl,by unfold Addr.add;split<;>rfl⟩
   have hcn':¬c=0:=hcn
   go_simp
   try rfl
  ·refine⟨some ⟨b,off+n,none⟩,?_,⟨hl,.inr ⟨b,off+n,rfl,fun i x hx => ?_⟩⟩,fun q hq=>by cases hq;exact⟨_,rfl,rfl⟩⟩
   ·go_simp
    try simp[Addr.add]
   ·rw[List.getElem?_drop]at hx
    obtain⟨vs,h3,h4,h5⟩:=hcell (n+i) x hx
    refine⟨vs,h3,h4,fun j v hv => ?_⟩
    have:=h5 j v hv
    simpa[Nat.add_assoc,Nat.mul_one] using this
theorem yJ {o:Oper}{act:Act}{W:World}(p q r:Operand)(ho:o.op=.slice 40 p none (some q) (some r)){a a':Option Addr}{m c n:Nat}(hp:act.eval p=.slice a m c)(hq:act.eval q=.int .i64 n)(hr:act.eval r=.int .i64 n)
  (h:(Instr.slice 40 (.slice a m c) none (some (.int .i64 n)) (some (.int .i64 n))).run Tryz.prog W=.ok (.slice a' n n) W):(execOp act.eval o).run Tryz.prog W=.ok (.value (.slice a' n n)) W:=by
 unfold execOp
 simp only[ho,hp,hq,hr,Option.map_some,Option.map_none]
 go_simp
 try simp[h]
theorem yK {o:Oper}{act:Act}{W:World}(p q:Operand)(ho:o.op=.slice 40 p (some q) none none){a a':Option Addr}{m c n:Nat}(hp:act.eval p=.slice a m c)(hq:act.eval q=.int .i64 n)
  (h:(Instr.slice 40 (.slice a m c) (some (.int .i64 n)) none none).run Tryz.prog W=.ok (.slice a' (m-n) (c-n)) W):(execOp act.eval o).run Tryz.prog W=.ok (.value (.slice a' (m-n) (c-n))) W:=by
 unfold execOp
 simp only[ho,hp,hq,Option.map_some,Option.map_none]
 go_simp
 try simp[h]
theorem aG {P:Program}{ops:Array Oper}{rest:List Oper}{o:Oper}{a:Act}{w w':World}{Q:Exit->Act->World->Prop}(v:Value)(hw:Region.wanted o (yielded ops a.tmps)=true)(hr:(execOp a.eval o).run P w=.ok (.value v) w')(h:wpList P ops Q rest (a.put o.dst v) w'):wpList P ops Q (o::rest) a w:=by
 unfold wpList
 rw[if_pos hw]
 refine .inl ?_
 unfold Oper.wp
 rw[hr,Oper.upon_value]
 exact h
theorem pj (R n:Nat)(l:List UInt8)(w:World)(hn:n<=1000000000)(h:ce w R l) :
  Calls Tryz.prog 142 #[.pointer (some ⟨R,0,none⟩),.int .i64 n] w fun e w'=>az R w w'/\((n<=l.length/\(∃a,e=.returned (.slice a n n)/\Sl 1 ai w' a n (l.take n))/\ce w' R (l.drop n))\/(l.length<n/\e=.panicked [jA])):=by
 obtain⟨a,m,c,hr,hmc,hs,hol⟩:=h
 have HOL:=aa hol
 have hml:=hs.1
 have HS:=aa hs
 have HR:=aa hr
 have f0:w.cell? ⟨R,0,none⟩=some (.slice a m c):=by have:=ac.cell hr 0;simpa using this
 have z0:w.frozen? ⟨R,0,none⟩=false:=by unfold ac at hr;simp[World.frozen?,hr]
 have HW:=aa (fS R (decide (n<=m)) w)
 have HN:=aa hn
 clear hs hr hn hol
 go_enter Tryz.func142,Tryz.ntmps142
 by_cases hnm:n<=m
 ·have g1:(n:Int)<=(m:Int):=om
  have HWT:=HW.out
  rw[decide_eq_true hnm]at HWT
  have HWT:=aa HWT
  obtain⟨a1,hr1,hs1,ha1⟩:=DV w a m c n l HS.out hnm hmc
  obtain⟨a2,hr2,hs2,hb2⟩:=wu w a m c n l HS.out hnm hmc
  have HR1:=aa hr1
  have HR2:=aa hr2
  have HS1:=aa hs1
  have HS2:=aa hs2
  have HB2:=aa hb2
  have HA1:=aa ha1
  have HNM:=aa hnm
  have HMC:=aa hmc
  have HML:=aa hml
  clear HW hr1 hr2 hs1 hs2 hnm hmc hml hb2 ha1
  go_wp2_with fail
  refine HWT.out.mono ?_
  rintro e w1 ⟨rfl,(⟨_,rfl⟩|⟨hb,_⟩)⟩
  ·clear g1 HWT
   go_wp2_with (first
    | (refine aG (.slice a1 n n) rfl (yJ (.tmp 18) (.tmp 19) (.tmp 20) rfl rfl rfl rfl HR1.out) ?_;simp only[Act.put,zp])
    | (refine aG (.slice a2 (m-n) (c-n)) rfl (yK (.tmp 26) (.tmp 27) rfl rfl rfl HR2.out) ?_;simp only[Act.put,zp]))
   go_ret
   have hm:az R w (w.setCell ⟨R,0,none⟩ (.slice a2 (m-n) (c-n))):=(az.refl R w).setCell rfl _
   have hold:∀k,k<R->(w.setCell ⟨R,0,none⟩ (.slice a2 (m-n) (c-n))).heap[k]? = w.heap[k]? := fun k hk=>hm.block k (by have:=(HR.out).lt;omega) om
   have h0m:m=0\/∀ad,a2=some ad->ad.block<R:=by
    rcases HOL.out with h9|h9
    ·exact .inl h9
    ·refine .inr fun ad had => ?_
     obtain⟨q,hq1,hq2⟩:=HB2.out ad had
     rw[<-hq2]
     exact h9 q hq1
   refine⟨hm,.inl ⟨by have:=HNM.out;have:=HML.out;omega,⟨a1,rfl,?_⟩,a2,m-n,c-n,?_,by have:=HMC.out;omega,Sl.older HS2.out (by rcases h0m with h9|h9;exact .inl om;exact .inr h9) hold,by rcases h0m with h9|h9;exact .inl om;exact .inr h9⟩⟩
   ·refine Sl.older HS1.out ?_ hold
    rcases HOL.out with h9|h9
    ·exact .inl (by have:=HNM.out;omega)
    ·exact .inr (fun ad had=>h9 ad (HA1.out ad had))
   have:=ax HR.out 0 (.slice a2 (m-n) (c-n))
   simpa[ac] using this
  ·cases hb
 ·have g1:¬(n:Int)<=(m:Int):=om
  have HWT:=HW.out
  rw[decide_eq_false hnm]at HWT
  have HWT:=aa HWT
  have HX:Hid (l.length<n):=by show _<_;omega
  clear HW hnm hmc hml
  go_wp2_with fail
  refine HWT.out.mono ?_
  rintro e w1 ⟨rfl,(⟨hb,_⟩|⟨_,rfl⟩)⟩
  ·cases hb
  ·go_wp2_with fail
   exact⟨rfl,az.refl _ _,.inr ⟨HX.out,rfl⟩⟩
theorem BI {u x k:Nat}(h:u<2 ^ k):u ||| (x*2 ^ k)=u+x*2 ^ k:=by
 have h1:=Nat.shiftLeft_add_eq_or_of_lt h x
 rw[Nat.shiftLeft_eq]at h1
 rw[Nat.or_comm,<-h1,Nat.add_comm]
theorem Az (x:Nat):x &&& 127=x%128:=Nat.and_two_pow_sub_one_eq_mod x 7
theorem lJ {o:Oper}{act:Act}{W:World}(p q:Operand)(ho:o.op=.binOp .and 5 p q 5)(c:UInt8)(hp:act.eval p=.int .u8 c.toNat)(hq:act.eval q=.int .u8 127):(execOp act.eval o).run Tryz.prog W=.ok (.value (.int .u8 ((c.toNat%128:Nat):Int))) W:=by
 have h:=u8_and_nat c.toNat 127 c.toNat_lt om
 rw[Az]at h
 have h':(binOp .and 5 (.int .u8 c.toNat) (.int .u8 127)).run Tryz.prog W=.ok (.int .u8 ((c.toNat%128:Nat):Int)) W:=by rw[<-h];kernel_rfl
 unfold execOp
 simp only[ho,hp,hq]
 rw[show (eqGuard .and 5 p q (.int .u8 c.toNat) (.int .u8 127))=pure () from rfl]
 simp only[Sem.run_bind,Sem.run_pure,Result.andThen_ok,h']
theorem jC {o:Oper}{a:Act}{W:World}(x:Operand)(ho:o.op=.convert 5 75 x)(n:Nat)(hn:n<256)(hx:a.eval x=.int .u8 (n:Int)):(execOp a.eval o).run Tryz.prog W=.ok (.value (.int .u64 (n:Int))) W:=by
 have h3:IntKind.u64.wrap (n:Int)=(n:Int):=by rw[IntKind.wrap_u64];omega
 have h:(convert 5 75 (.int .u8 (n:Int))).run Tryz.prog W=.ok (.int .u64 (n:Int)) W:=by
  refine Eq.trans ?_ (show Result.ok (.int .u64 (IntKind.u64.wrap (n:Int))) W=_ by rw[h3])
  kernel_rfl
 unfold execOp
 simp only[ho,hx,Sem.run_bind,Sem.run_pure,Result.andThen_ok,h]
theorem jD {o:Oper}{a:Act}{W:World}(x:Operand)(ho:o.op=.convert 3 75 x)(n:Nat)(hn:n<18446744073709551616)(hx:a.eval x=.int .i64 (n:Int)):(execOp a.eval o).run Tryz.prog W=.ok (.value (.int .u64 (n:Int))) W:=by
 have h3:IntKind.u64.wrap (n:Int)=(n:Int):=by rw[IntKind.wrap_u64];omega
 have h:(convert 3 75 (.int .i64 (n:Int))).run Tryz.prog W=.ok (.int .u64 (n:Int)) W:=by
  refine Eq.trans ?_ (show Result.ok (.int .u64 (IntKind.u64.wrap (n:Int))) W=_ by rw[h3])
  kernel_rfl
 unfold execOp
 simp only[ho,hx,Sem.run_bind,Sem.run_pure,Result.andThen_ok,h]
theorem fC {o:Oper}{a:Act}{W:World}(x:Operand)(ho:o.op=.convert 75 3 x)(n:Nat)(hn:n<9223372036854775808)(hx:a.eval x=.int .u64 (n:Int)):(execOp a.eval o).run Tryz.prog W=.ok (.value (.int .i64 (n:Int))) W:=by
 have h3:IntKind.i64.wrap (n:Int)=(n:Int):=by rw[IntKind.wrap_i64];omega
 have h:(convert 75 3 (.int .u64 (n:Int))).run Tryz.prog W=.ok (.int .i64 (n:Int)) W:=by
  refine Eq.trans ?_ (show Result.ok (.int .i64 (IntKind.i64.wrap (n:Int))) W=_ by rw[h3])
  kernel_rfl
 unfold execOp
 simp only[ho,hx,Sem.run_bind,Sem.run_pure,Result.andThen_ok,h]
theorem ml {o:Oper}{act:Act}{W:World}(p q:Operand)(ho:o.op=.binOp .mul 3 p q 3)(i:Nat)(hi:i<=100)(hp:act.eval p=.int .i64 7)(hq:act.eval q=.int .i64 (i:Int)):(execOp act.eval o).run Tryz.prog W=.ok (.value (.int .i64 ((7*i:Nat):Int))) W:=by
 have h3:IntKind.i64.wrap (7*(i:Int))=((7*i:Nat):Int):=by rw[IntKind.wrap_i64];omega
 have h':(binOp .mul 3 (.int .i64 7) (.int .i64 (i:Int))).run Tryz.prog W=.ok (.int .i64 ((7*i:Nat):Int)) W:=by
  refine Eq.trans ?_ (show Result.ok (.int .i64 (IntKind.i64.wrap (7*(i:Int)))) W=_ by rw[h3])
  kernel_rfl
 unfold execOp
 simp only[ho,hp,hq]
 rw[show (eqGuard .mul 3 p q (.int .i64 7) (.int .i64 (i:Int)))=pure () from rfl]
 simp only[Sem.run_bind,Sem.run_pure,Result.andThen_ok,h']
theorem yL (W:World)(x s:Nat)(hs:s<=63)(hx:x*2 ^ s<18446744073709551616):(binOp .shl 75 (.int .u64 (x:Int)) (.int .i64 (s:Int))).run Tryz.prog W=.ok (.int .u64 ((x*2 ^ s:Nat):Int)) W:=by
 have h0:¬((s:Int)<0):=om
 have h1:min (s:Int).toNat IntKind.u64.bits=s:=by show min (s:Int).toNat 64=s;omega
 have h2:(x:Int)*2 ^ s=((x*2 ^ s:Nat):Int):=by rw[Int.natCast_mul,Int.natCast_pow];rfl
 have h3:IntKind.u64.wrap ((x:Int)*2 ^ s)=((x*2 ^ s:Nat):Int):=by rw[h2,IntKind.wrap_u64];omega
 have h4:(Op.shift .shl .u64 (x:Int) .i64 (s:Int)).run Tryz.prog W=.ok (.int .u64 ((x*2 ^ s:Nat):Int)) W:=by
  unfold Op.shift
  rw[if_neg h0]
  simp only[h1,h3,Sem.run_pure]
 refine Eq.trans ?_ h4
 kernel_rfl
theorem mo {o:Oper}{act:Act}{W:World}(p q:Operand)(ho:o.op=.binOp .shl 75 p q 3)(x s:Nat)(hs:s<=63)(hx:x*2 ^ s<18446744073709551616)(hp:act.eval p=.int .u64 (x:Int))(hq:act.eval q=.int .i64 (s:Int)):(execOp act.eval o).run Tryz.prog W=.ok (.value (.int .u64 ((x*2 ^ s:Nat):Int))) W:=by
 have h':=yL W x s hs hx
 unfold execOp
 simp only[ho,hp,hq]
 rw[show (eqGuard .shl 75 p q (.int .u64 (x:Int)) (.int .i64 (s:Int)))=pure () from rfl]
 simp only[Sem.run_bind,Sem.run_pure,Result.andThen_ok,h']
theorem ri {o:Oper}{act:Act}{W:World}(p q:Operand)(ho:o.op=.binOp .or 75 p q 75)(u x k:Nat)(hu:u<2 ^ k)(hx:u+x*2 ^ k<18446744073709551616)(hp:act.eval p=.int .u64 (u:Int))(hq:act.eval q=.int .u64 ((x*2 ^ k:Nat):Int)):(execOp act.eval o).run Tryz.prog W=.ok (.value (.int .u64 ((u+x*2 ^ k:Nat):Int))) W:=by
 have h:=u64_or_nat u (x*2 ^ k) om om
 rw[BI hu]at h
 have h':(binOp .or 75 (.int .u64 (u:Int)) (.int .u64 ((x*2 ^ k:Nat):Int))).run Tryz.prog W=.ok (.int .u64 ((u+x*2 ^ k:Nat):Int)) W:=by rw[<-h];kernel_rfl
 unfold execOp
 simp only[ho,hp,hq]
 rw[show (eqGuard .or 75 p q (.int .u64 (u:Int)) (.int .u64 ((x*2 ^ k:Nat):Int)))=pure () from rfl]
 simp only[Sem.run_bind,Sem.run_pure,Result.andThen_ok,h']
theorem eT (i:Nat)(c:UInt8)(r:List UInt8):bv i (c::r)=if (i≠0/\c.toNat=0)\/(9<=i/\1<c.toNat) then none else if c.toNat<128 then some (c.toNat,r) else match bv (i+1) r with
  | none=>none
  | some (u,s)=>some (c.toNat%128+128*u,s):=rfl
def gF (u i:Nat):Option (Nat × List UInt8)->Option (Nat × List UInt8)
 | none=>none
 | some (v,s)=>some (u+2 ^ (7*i)*v,s)
theorem AA : ∀(l:List UInt8) (i v:Nat) (s:List UInt8),i<=9->bv i l=some (v,s)->v<2 ^ (64-7*i)/\s.length<=l.length:=by
 intro l
 induction l with
 | nil=>intro i v s _ h;simp[bv]at h
 | cons c r ih =>
  intro i v s hi h
  rw[eT]at h
  split at h
  ·cases h
  ·next hc =>
   split at h
   ·next h8 =>
    cases h
    refine⟨?_,by simp⟩
    rcases Nat.lt_or_ge i 9 with hi9|hi9
    ·exact Nat.lt_of_lt_of_le h8 (Nat.le_trans (by decide:128<=2 ^ 7) (Nat.pow_le_pow_right om om))
    ·have:i=9:=om
     subst this
     have:c.toNat<=1:=om
     show c.toNat<2
     omega
   ·next h8 =>
    have hi8:i<9:=om
    cases hn:bv (i+1) r with
    | none=>rw[hn]at h;cases h
    | some p =>
     obtain⟨v',s'⟩:=p
     rw[hn]at h
     cases h
     obtain⟨h1,h2⟩:=ih (i+1) v' _ om hn
     have hp:2 ^ (64-7*i)=128*2 ^ (64-7*(i+1)):=by rw[show 64-7*i=7+(64-7*(i+1)) by omega,Nat.pow_add]
     have hm:c.toNat%128<128:=Nat.mod_lt _ om
     refine⟨by rw[hp];omega,by simp;omega⟩
theorem gX {l:List UInt8}{v:Nat}{s:List UInt8}(h:bv 0 l=some (v,s)):v<18446744073709551616/\s.length<=l.length:=by simpa using AA l 0 v s om h
theorem jE {u i:Nat}{c:UInt8}{r:List UInt8}(h:¬((i≠0/\c.toNat=0)\/(9<=i/\1<c.toNat)))(h8:¬c.toNat<128):gF u i (bv i (c::r))=gF (u+c.toNat%128*2 ^ (7*i)) (i+1) (bv (i+1) r):=by
 rw[eT,if_neg h,if_neg h8]
 cases bv (i+1) r with
 | none=>rfl
 | some p =>
  obtain⟨v,s⟩:=p
  simp only[gF,Option.some.injEq,Prod.mk.injEq,and_true]
  rw[show 7*(i+1)=7*i+7 by omega,Nat.pow_add,Nat.mul_add,Nat.mul_comm (2 ^ (7*i)) (c.toNat%128),Nat.add_assoc,Nat.mul_assoc]
theorem kQ {u i:Nat}{c:UInt8}{r:List UInt8}(h:¬((i≠0/\c.toNat=0)\/(9<=i/\1<c.toNat)))(h8:c.toNat<128):gF u i (bv i (c::r))=some (u+c.toNat%128*2 ^ (7*i),r):=by
 rw[eT,if_neg h,if_pos h8]
 simp only[gF,Option.some.injEq,Prod.mk.injEq,and_true]
 rw[Nat.mod_eq_of_lt h8,Nat.mul_comm]
theorem kR {u i x:Nat}(hu:u<2 ^ (7*i))(hx:x<128)(hi:i<9\/(i=9/\x<=1)):u+x*2 ^ (7*i)<2 ^ (7*(i+1))/\u+x*2 ^ (7*i)<18446744073709551616:=by
 have e:2 ^ (7*(i+1))=128*2 ^ (7*i):=by rw[show 7*(i+1)=7+7*i by omega,Nat.pow_add]
 have h1:x*2 ^ (7*i)<=127*2 ^ (7*i):=Nat.mul_le_mul_right _ om
 refine⟨om,?_⟩
 rcases hi with hi|⟨rfl,hx1⟩
 ·have h2:2 ^ (7*(i+1))<=2 ^ 63:=Nat.pow_le_pow_right om om
  have:(2:Nat) ^ 63=9223372036854775808:=by decide
  omega
 ·have h2:x*2 ^ (7*9)<=1*2 ^ (7*9):=Nat.mul_le_mul_right _ hx1
  have:(2:Nat) ^ (7*9)=9223372036854775808:=by decide
  omega
theorem pO {W:World}{a:Option Addr}{c:UInt8}(h:Sl 1 ai W a 1 [c]):∃b off,a=some ⟨b,off,none⟩/\W.cell? ⟨b,off,none⟩=some (.int .u8 c.toNat):=by
 rcases h.2 with h0|⟨b,off,rfl,hc⟩
 ·omega
 ·obtain⟨vs,_,hv,hcell⟩:=hc 0 c rfl
  cases hv
  exact⟨b,off,rfl,by simpa using hcell 0 _ rfl⟩
theorem pP (R:Nat)(l:List UInt8)(w:World)(h:ce w R l) :
  Calls Tryz.prog 144 #[.pointer (some ⟨R,0,none⟩)] w fun e w'=>az R w w'/\((∃u s,bv 0 l=some (u,s)/\e=.returned (.int .u64 (u:Int))/\ce w' R s)\/(bv 0 l=none/\e=.panicked [jA])):=by
 have H:=aa h
 clear h
 go_enter Tryz.func144,Tryz.ntmps144
 go_wp2_with fail
 go_loopw [2,3] (fun s2 s3 wr=>∃(i u:Nat) (li:List UInt8),i<=9/\s3=.int .i64 i/\s2=.int .u64 u/\u<2 ^ (7*i)/\bv 0 l=gF u i (bv i li)/\ce wr R li/\az R w wr) (fun _ s3 _=>10-(intOf s3).toNat)
 case atStart=>exact⟨0,0,l,om,rfl,rfl,by simp,by cases h9:bv 0 l with|none=>rfl|some p=>obtain⟨v,s⟩:=p;simp[gF],H.out,az.refl _ _⟩
 case round =>
  obtain⟨i,u,li,hi,rfl,rfl,hu,hj,hr,hm⟩:=hrel
  have HU:=aa hu
  have HJ:=aa hj
  have HM:=aa hm
  have HI:Hid (i<=9):=hi
  have HT:=aa (pj R 1 li wr om hr)
  have i0:(0:Int)<=(i:Int):=om
  clear hu hj hm hr
  go_wp2_with fail
  refine HT.out.mono ?_
  rintro e w1 ⟨hm1,(⟨hl,⟨a,rfl,hs⟩,hr⟩|⟨hl,rfl⟩)⟩
  ·obtain⟨c,r,rfl⟩:∃c r,li=c::r:=by
    cases li with
    | nil=>simp at hl
    | cons c r=>exact⟨c,r,rfl⟩
   obtain⟨b,off,rfl,hcell⟩:=pO (c:=c) (by simpa using hs)
   have HR:Hid (ce w1 R r):=by simpa[Hid] using hr
   have HM1:Hid (az R w w1):=HM.out.trans hm1
   have HC:=aa hcell
   obtain⟨ok,hok⟩:=zg (decide (¬((i≠0/\c.toNat=0)\/(9<=i/\1<c.toNat))))
   have HOK:=aa hok
   have HW:=aa (fS R ok w1)
   clear hl hs hr hm1 HT HM hok
   have cb:=c.toNat_lt
   by_cases hi0:i=0
   ·have b1:((i:Int) == 0)=true:=by simp;omega
    have b2:(i:Int)<9:=om
    have hokv:true=ok:=by rw[HOK.out];symm;rw[decide_eq_true_eq];omega
    have HOV:=aa hokv
    have HWB:=aa (by have h9:=HW.out;rw[<-hokv]at h9;exact h9)
    clear hokv HW cb
    try clear hi0
    try clear hc0
    try clear hi9
    try clear hc1
    go_wp2_with fail
    refine HWB.out.mono ?_
    rintro e w2 ⟨rfl,(⟨_,rfl⟩|⟨hb,rfl⟩)⟩
    rotate_left
    ·cases hb
    have hgg:¬((i≠0/\c.toNat=0)\/(9<=i/\1<c.toNat)):=of_decide_eq_true (HOK.out.symm.trans HOV.out.symm)
    have HG:=aa hgg
    clear hgg
    have hx128:c.toNat%128<128:=Nat.mod_lt _ om
    have hps:=kR HU.out hx128 (by have h1:=HI.out;have h2:=HG.out;have h3:=Nat.mod_le c.toNat 128;omega)
    have HPS:=aa hps
    have h256:c.toNat%128<256:=om
    have hi63:7*i<=63:=by have:=HI.out;omega
    have hi100:i<=100:=by have:=HI.out;omega
    have hmul:c.toNat%128*2 ^ (7*i)<18446744073709551616:=by have:=hps.2;omega
    have H256:=aa h256
    have H63:=aa hi63
    have H100:=aa hi100
    have HMUL:=aa hmul
    clear HWB hx128 hps h256 hi63 hi100 hmul
    try clear b1
    try clear b2
    try clear b3
    try clear b4
    go_upto_region 6 with (first
     | (refine aG (.int .u8 ((c.toNat%128:Nat):Int)) rfl (lJ (.tmp 28) (.const (.int .u8 127)) rfl c rfl rfl) ?_;simp only[Act.put,zp])
     | (refine aG (.int .u64 ((c.toNat%128:Nat):Int)) rfl (jC (.tmp 29) rfl (c.toNat%128) H256.out rfl) ?_;simp only[Act.put,zp])
     | (refine aG (.int .i64 ((7*i:Nat):Int)) rfl (ml (.const (.int .i64 7)) (.tmp 31) rfl i H100.out rfl rfl) ?_;simp only[Act.put,zp])
     | (refine aG (.int .u64 ((c.toNat%128*2 ^ (7*i):Nat):Int)) rfl (mo (.tmp 30) (.tmp 32) rfl (c.toNat%128) (7*i) H63.out HMUL.out rfl rfl) ?_;simp only[Act.put,zp])
     | (refine aG (.int .u64 ((u+c.toNat%128*2 ^ (7*i):Nat):Int)) rfl (ri (.tmp 27) (.tmp 33) rfl u (c.toNat%128) (7*i) HU.out HPS.out.2 rfl rfl) ?_;simp only[Act.put,zp]))
    obtain⟨u',hu'⟩:∃q,q=u+c.toNat%128*2 ^ (7*i):=⟨_,rfl⟩
    rw[<-hu']at HPS ⊢
    have HU2:=aa hu'
    clear hu'
    by_cases h8:c.toNat<128
    ·have g8:(c.toNat:Int)<128:=om
     have HX:Hid (bv 0 l=some (u',r)):=by rw[Hid,HJ.out,kQ HG.out h8,HU2.out]
     clear h8
     go_wp2_with fail
     go_ret
     exact⟨HM1.out,.inl ⟨u',r,HX.out,rfl,HR.out⟩⟩
    ·have g8:¬(c.toNat:Int)<128:=om
     have hi9':i<9:=by have h1:=HI.out;have h2:=HG.out;omega
     have HX:Hid (bv 0 l=gF u' (i+1) (bv (i+1) r)):=by rw[Hid,HJ.out,jE HG.out h8,HU2.out]
     clear h8
     go_wp2_with fail
     go_roundw
     case rel=>exact⟨i+1,u',r,om,by go_num,rfl,HPS.out.1,HX.out,HR.out,HM1.out⟩
     case measure=>simp[intOf];omega
   ·have b1:((i:Int) == 0)=false:=by simp;omega
    by_cases hc0:c.toNat=0
    ·have b3:((c.toNat:Int) != 0)=false:=by simp;omega
     have hokv:false=ok:=by rw[HOK.out];symm;rw[decide_eq_false_iff_not];omega
     have HOV:=aa hokv
     have HWB:=aa (by have h9:=HW.out;rw[<-hokv]at h9;exact h9)
     clear hokv HW cb
     try clear hi0
     try clear hc0
     try clear hi9
     try clear hc1
     go_wp2_with fail
     try rw[show (decide ((i:Int)<9) || decide ((c.toNat:Int)<=1))=false from by simp;omega]
     refine HWB.out.mono ?_
     rintro e w2 ⟨rfl,(⟨hb,rfl⟩|⟨_,rfl⟩)⟩
     ·cases hb
     have HG:Hid (bv 0 l=none):=by
      have h1:¬ ¬((i≠0/\c.toNat=0)\/(9<=i/\1<c.toNat)):=of_decide_eq_false (HOK.out.symm.trans HOV.out.symm)
      rw[Hid,HJ.out,eT,if_pos (Classical.not_not.1 h1)]
      rfl
     clear HWB
     go_wp2_with fail
     exact⟨rfl,HM1.out,.inr ⟨HG.out,rfl⟩⟩
    ·have b3:((c.toNat:Int) != 0)=true:=by simp;omega
     by_cases hi9:i<9
     ·have b2:(i:Int)<9:=om
      have hokv:true=ok:=by rw[HOK.out];symm;rw[decide_eq_true_eq];omega
      have HOV:=aa hokv
      have HWB:=aa (by have h9:=HW.out;rw[<-hokv]at h9;exact h9)
      clear hokv HW cb
      try clear hi0
      try clear hc0
      try clear hi9
      try clear hc1
      go_wp2_with fail
      refine HWB.out.mono ?_
      rintro e w2 ⟨rfl,(⟨_,rfl⟩|⟨hb,rfl⟩)⟩
      rotate_left
      ·cases hb
      have hgg:¬((i≠0/\c.toNat=0)\/(9<=i/\1<c.toNat)):=of_decide_eq_true (HOK.out.symm.trans HOV.out.symm)
      have HG:=aa hgg
      clear hgg
      have hx128:c.toNat%128<128:=Nat.mod_lt _ om
      have hps:=kR HU.out hx128 (by have h1:=HI.out;have h2:=HG.out;have h3:=Nat.mod_le c.toNat 128;omega)
      have HPS:=aa hps
      have h256:c.toNat%128<256:=om
      have hi63:7*i<=63:=by have:=HI.out;omega
      have hi100:i<=100:=by have:=HI.out;omega
      have hmul:c.toNat%128*2 ^ (7*i)<18446744073709551616:=by have:=hps.2;omega
      have H256:=aa h256
      have H63:=aa hi63
      have H100:=aa hi100
      have HMUL:=aa hmul
      clear HWB hx128 hps h256 hi63 hi100 hmul
      try clear b1
      try clear b2
      try clear b3
      try clear b4
      go_upto_region 6 with (first
       | (refine aG (.int .u8 ((c.toNat%128:Nat):Int)) rfl (lJ (.tmp 28) (.const (.int .u8 127)) rfl c rfl rfl) ?_;simp only[Act.put,zp])
       | (refine aG (.int .u64 ((c.toNat%128:Nat):Int)) rfl (jC (.tmp 29) rfl (c.toNat%128) H256.out rfl) ?_;simp only[Act.put,zp])
       | (refine aG (.int .i64 ((7*i:Nat):Int)) rfl (ml (.const (.int .i64 7)) (.tmp 31) rfl i H100.out rfl rfl) ?_;simp only[Act.put,zp])
       | (refine aG (.int .u64 ((c.toNat%128*2 ^ (7*i):Nat):Int)) rfl (mo (.tmp 30) (.tmp 32) rfl (c.toNat%128) (7*i) H63.out HMUL.out rfl rfl) ?_;simp only[Act.put,zp])
       | (refine aG (.int .u64 ((u+c.toNat%128*2 ^ (7*i):Nat):Int)) rfl (ri (.tmp 27) (.tmp 33) rfl u (c.toNat%128) (7*i) HU.out HPS.out.2 rfl rfl) ?_;simp only[Act.put,zp]))
      obtain⟨u',hu'⟩:∃q,q=u+c.toNat%128*2 ^ (7*i):=⟨_,rfl⟩
      rw[<-hu']at HPS ⊢
      have HU2:=aa hu'
      clear hu'
      by_cases h8:c.toNat<128
      ·have g8:(c.toNat:Int)<128:=om
       have HX:Hid (bv 0 l=some (u',r)):=by rw[Hid,HJ.out,kQ HG.out h8,HU2.out]
       clear h8
       go_wp2_with fail
       go_ret
       exact⟨HM1.out,.inl ⟨u',r,HX.out,rfl,HR.out⟩⟩
      ·have g8:¬(c.toNat:Int)<128:=om
       have hi9':i<9:=by have h1:=HI.out;have h2:=HG.out;omega
       have HX:Hid (bv 0 l=gF u' (i+1) (bv (i+1) r)):=by rw[Hid,HJ.out,jE HG.out h8,HU2.out]
       clear h8
       go_wp2_with fail
       go_roundw
       case rel=>exact⟨i+1,u',r,om,by go_num,rfl,HPS.out.1,HX.out,HR.out,HM1.out⟩
       case measure=>simp[intOf];omega
     ·have b2:¬(i:Int)<9:=om
      by_cases hc1:c.toNat<=1
      ·have b4:(c.toNat:Int)<=1:=om
       have hokv:true=ok:=by rw[HOK.out];symm;rw[decide_eq_true_eq];omega
       have HOV:=aa hokv
       have HWB:=aa (by have h9:=HW.out;rw[<-hokv]at h9;exact h9)
       clear hokv HW cb
       try clear hi0
       try clear hc0
       try clear hi9
       try clear hc1
       go_wp2_with fail
       refine HWB.out.mono ?_
       rintro e w2 ⟨rfl,(⟨_,rfl⟩|⟨hb,rfl⟩)⟩
       rotate_left
       ·cases hb
       have hgg:¬((i≠0/\c.toNat=0)\/(9<=i/\1<c.toNat)):=of_decide_eq_true (HOK.out.symm.trans HOV.out.symm)
       have HG:=aa hgg
       clear hgg
       have hx128:c.toNat%128<128:=Nat.mod_lt _ om
       have hps:=kR HU.out hx128 (by have h1:=HI.out;have h2:=HG.out;have h3:=Nat.mod_le c.toNat 128;omega)
       have HPS:=aa hps
       have h256:c.toNat%128<256:=om
       have hi63:7*i<=63:=by have:=HI.out;omega
       have hi100:i<=100:=by have:=HI.out;omega
       have hmul:c.toNat%128*2 ^ (7*i)<18446744073709551616:=by have:=hps.2;omega
       have H256:=aa h256
       have H63:=aa hi63
       have H100:=aa hi100
       have HMUL:=aa hmul
       clear HWB hx128 hps h256 hi63 hi100 hmul
       try clear b1
       try clear b2
       try clear b3
       try clear b4
       go_upto_region 6 with (first
        | (refine aG (.int .u8 ((c.toNat%128:Nat):Int)) rfl (lJ (.tmp 28) (.const (.int .u8 127)) rfl c rfl rfl) ?_;simp only[Act.put,zp])
        | (refine aG (.int .u64 ((c.toNat%128:Nat):Int)) rfl (jC (.tmp 29) rfl (c.toNat%128) H256.out rfl) ?_;simp only[Act.put,zp])
        | (refine aG (.int .i64 ((7*i:Nat):Int)) rfl (ml (.const (.int .i64 7)) (.tmp 31) rfl i H100.out rfl rfl) ?_;simp only[Act.put,zp])
        | (refine aG (.int .u64 ((c.toNat%128*2 ^ (7*i):Nat):Int)) rfl (mo (.tmp 30) (.tmp 32) rfl (c.toNat%128) (7*i) H63.out HMUL.out rfl rfl) ?_;simp only[Act.put,zp])
        | (refine aG (.int .u64 ((u+c.toNat%128*2 ^ (7*i):Nat):Int)) rfl (ri (.tmp 27) (.tmp 33) rfl u (c.toNat%128) (7*i) HU.out HPS.out.2 rfl rfl) ?_;simp only[Act.put,zp]))
       obtain⟨u',hu'⟩:∃q,q=u+c.toNat%128*2 ^ (7*i):=⟨_,rfl⟩
       rw[<-hu']at HPS ⊢
       have HU2:=aa hu'
       clear hu'
       by_cases h8:c.toNat<128
       ·have g8:(c.toNat:Int)<128:=om
        have HX:Hid (bv 0 l=some (u',r)):=by rw[Hid,HJ.out,kQ HG.out h8,HU2.out]
        clear h8
        go_wp2_with fail
        go_ret
        exact⟨HM1.out,.inl ⟨u',r,HX.out,rfl,HR.out⟩⟩
       ·have g8:¬(c.toNat:Int)<128:=om
        have hi9':i<9:=by have h1:=HI.out;have h2:=HG.out;omega
        have HX:Hid (bv 0 l=gF u' (i+1) (bv (i+1) r)):=by rw[Hid,HJ.out,jE HG.out h8,HU2.out]
        clear h8
        go_wp2_with fail
        go_roundw
        case rel=>exact⟨i+1,u',r,om,by go_num,rfl,HPS.out.1,HX.out,HR.out,HM1.out⟩
        case measure=>simp[intOf];omega
      ·have b4:¬(c.toNat:Int)<=1:=om
       have hokv:false=ok:=by rw[HOK.out];symm;rw[decide_eq_false_iff_not];omega
       have HOV:=aa hokv
       have HWB:=aa (by have h9:=HW.out;rw[<-hokv]at h9;exact h9)
       clear hokv HW cb
       try clear hi0
       try clear hc0
       try clear hi9
       try clear hc1
       go_wp2_with fail
       try rw[show (decide ((i:Int)<9) || decide ((c.toNat:Int)<=1))=false from by simp;omega]
       refine HWB.out.mono ?_
       rintro e w2 ⟨rfl,(⟨hb,rfl⟩|⟨_,rfl⟩)⟩
       ·cases hb
       have HG:Hid (bv 0 l=none):=by
        have h1:¬ ¬((i≠0/\c.toNat=0)\/(9<=i/\1<c.toNat)):=of_decide_eq_false (HOK.out.symm.trans HOV.out.symm)
        rw[Hid,HJ.out,eT,if_pos (Classical.not_not.1 h1)]
        rfl
       clear HWB
       go_wp2_with fail
       exact⟨rfl,HM1.out,.inr ⟨HG.out,rfl⟩⟩
  ·have hn:li=[]:=by
    cases li with
    | nil=>rfl
    | cons c r=>simp at hl
   have HX:Hid (bv 0 l=none):=by rw[Hid,HJ.out,hn];rfl
   clear hn hl HT
   go_wp2_with fail
   exact⟨rfl,HM.out.trans hm1,.inr ⟨HX.out,rfl⟩⟩
theorem fD {l:List UInt8}{n:Nat}{s:List UInt8}(h:cx l=some (n,s)):n<=s.length/\s.length<=l.length:=by
 unfold cx at h
 cases hn:bv 0 l with
 | none=>rw[hn]at h;cases h
 | some p =>
  obtain⟨u,t⟩:=p
  rw[hn]at h
  simp only at h
  split at h
  ·next hc=>cases h;exact⟨hc,(gX hn).2⟩
  ·cases h
theorem pQ (R:Nat)(l:List UInt8)(w:World)(hl:l.length<=1000000000)(h:ce w R l) :
  Calls Tryz.prog 145 #[.pointer (some ⟨R,0,none⟩)] w fun e w'=>az R w w'/\((∃n s,cx l=some (n,s)/\e=.returned (.int .i64 (n:Int))/\ce w' R s)\/(cx l=none/\e=.panicked [jA])):=by
 have HN:=aa (pP R l w h)
 have HL:=aa hl
 clear h hl
 go_enter Tryz.func145,Tryz.ntmps145
 go_wp2_with fail
 refine HN.out.mono ?_
 rintro e w1 ⟨hm,(⟨u,s,hn,rfl,hr⟩|⟨hn,rfl⟩)⟩
 ·have hs:=gX hn
  obtain⟨a,m,c,hrow,hmc,hsl,hol⟩:=hr
  have hml:=hsl.1
  have f0:w1.cell? ⟨R,0,none⟩=some (.slice a m c):=by have:=ac.cell hrow 0;simpa using this
  have HNP:=aa hn
  have HM:=aa hm
  have HR:Hid (ce w1 R s):=⟨a,m,c,hrow,hmc,hsl,hol⟩
  have HMS:Hid (m<=1000000000/\m=s.length):=by have:=HL.out;show _/\_;omega
  have HU:Hid (u<18446744073709551616):=hs.1
  have hm64:m<18446744073709551616:=by have:=HMS.out;omega
  have HM64:=aa hm64
  clear HN hn hm hrow hmc hsl hml hs hm64 hol
  by_cases hum:u<=m
  ·have g1:(u:Int)<=(m:Int):=om
   have HX:Hid (cx l=some (u,s)):=by rw[Hid,cx,HNP.out];exact if_pos (by have:=HMS.out;omega)
   have hu63:u<9223372036854775808:=by have:=HMS.out;omega
   have HU63:=aa hu63
   have HW:=aa (fS R true w1)
   have HUM:=aa hum
   clear hum hu63
   go_wp2_with (refine aG (.int .u64 (m:Int)) rfl (jD (.tmp 12) rfl m HM64.out rfl) ?_;simp only[Act.put,zp])
   refine HW.out.mono ?_
   rintro e w2 ⟨rfl,(⟨_,rfl⟩|⟨hb,rfl⟩)⟩
   ·clear g1 f0 HW HUM
    go_wp2_with (refine aG (.int .i64 (u:Int)) rfl (fC (.tmp 16) rfl u HU63.out rfl) ?_;simp only[Act.put,zp])
    go_ret
    exact⟨HM.out,.inl ⟨u,s,HX.out,rfl,HR.out⟩⟩
   ·cases hb
  ·have g1:¬(u:Int)<=(m:Int):=om
   have HX:Hid (cx l=none):=by rw[Hid,cx,HNP.out];exact if_neg (by have:=HMS.out;omega)
   have HW:=aa (by have h9:=fS R (decide (u<=m)) w1;exact h9)
   have HUM:=aa hum
   clear hum
   go_wp2_with (refine aG (.int .u64 (m:Int)) rfl (jD (.tmp 12) rfl m HM64.out rfl) ?_;simp only[Act.put,zp])
   refine HW.out.mono ?_
   rintro e w2 ⟨rfl,(⟨hb,rfl⟩|⟨_,rfl⟩)⟩
   ·rw[decide_eq_false HUM.out]at hb;cases hb
   ·go_wp2_with fail
    exact⟨rfl,HM.out,.inr ⟨HX.out,rfl⟩⟩
 ·have HX:Hid (cx l=none):=by rw[Hid,cx,hn]
  have HM:=aa hm
  clear HN hn hm
  go_wp2_with fail
  exact⟨rfl,HM.out,.inr ⟨HX.out,rfl⟩⟩
theorem AB {o:Oper}{act:Act}{W:World}(p q:Operand)(ho:o.op=.binOp .shr 75 p q 79)(u:Nat)(hp:act.eval p=.int .u64 (u:Int))(hq:act.eval q=.int .u64 1):(execOp act.eval o).run Tryz.prog W=.ok (.value (.int .u64 ((u/2:Nat):Int))) W:=by
 have h3:(u:Int).fdiv (2 ^ 1)=((u/2:Nat):Int):=by rw[Int.fdiv_eq_ediv_of_nonneg _ (by decide)];omega
 have h':(binOp .shr 75 (.int .u64 (u:Int)) (.int .u64 1)).run Tryz.prog W=.ok (.int .u64 ((u/2:Nat):Int)) W:=by
  refine Eq.trans ?_ (show Result.ok (.int .u64 ((u:Int).fdiv (2 ^ 1))) W=_ by rw[h3])
  kernel_rfl
 unfold execOp
 simp only[ho,hp,hq]
 rw[show (eqGuard .shr 75 p q (.int .u64 (u:Int)) (.int .u64 1))=pure () from rfl]
 simp only[Sem.run_bind,Sem.run_pure,Result.andThen_ok,h']
theorem AC {o:Oper}{act:Act}{W:World}(p q:Operand)(ho:o.op=.binOp .and 75 p q 75)(u:Nat)(hu:u<18446744073709551616)(hp:act.eval p=.int .u64 (u:Int))(hq:act.eval q=.int .u64 1):(execOp act.eval o).run Tryz.prog W=.ok (.value (.int .u64 ((u%2:Nat):Int))) W:=by
 have h:=u64_and_nat u 1 hu om
 rw[Nat.and_one_is_mod]at h
 have h':(binOp .and 75 (.int .u64 (u:Int)) (.int .u64 1)).run Tryz.prog W=.ok (.int .u64 ((u%2:Nat):Int)) W:=by rw[<-h];kernel_rfl
 unfold execOp
 simp only[ho,hp,hq]
 rw[show (eqGuard .and 75 p q (.int .u64 (u:Int)) (.int .u64 1))=pure () from rfl]
 simp only[Sem.run_bind,Sem.run_pure,Result.andThen_ok,h']
theorem AD {o:Oper}{act:Act}{W:World}(p:Operand)(ho:o.op=.unOp .neg 3 p)(u:Nat)(hu:u<2)(hp:act.eval p=.int .i64 (u:Int)):(execOp act.eval o).run Tryz.prog W=.ok (.value (.int .i64 (-(u:Int)))) W:=by
 have h3:IntKind.i64.wrap (0-(u:Int)) = -(u:Int):=by rw[IntKind.wrap_i64];omega
 unfold execOp
 simp only[ho,hp]
 refine Eq.trans ?_ (show Result.ok (.value (.int .i64 (IntKind.i64.wrap (0-(u:Int))))) W=_ by rw[h3])
 kernel_rfl
theorem sK (u:Nat)(hu:u<18446744073709551616):bits .xor .i64 ((u/2:Nat):Int) (-((u%2:Nat):Int))=dT u:=by
 have h2:(BitVec.ofInt 64 ((u/2:Nat):Int)).toNat=u/2:=by rw[BitVec.ofInt_natCast,BitVec.toNat_ofNat];exact Nat.mod_eq_of_lt om
 unfold dT
 rcases Nat.mod_two_eq_zero_or_one u with h|h
 ·rw[h,if_pos rfl]
  show IntKind.i64.wrap ((BitVec.ofInt 64 ((u/2:Nat):Int) ^^^ BitVec.ofInt 64 (-((0:Nat):Int))).toNat:Int)=_
  rw[show BitVec.ofInt 64 (-((0:Nat):Int))=0#64 from by decide,BitVec.xor_zero,h2,IntKind.wrap_i64]
  omega
 ·rw[h,if_neg om]
  show IntKind.i64.wrap ((BitVec.ofInt 64 ((u/2:Nat):Int) ^^^ BitVec.ofInt 64 (-((1:Nat):Int))).toNat:Int)=_
  rw[show BitVec.ofInt 64 (-((1:Nat):Int))=BitVec.allOnes 64 from by decide,BitVec.xor_allOnes,BitVec.toNat_not,h2,IntKind.wrap_i64]
  omega
theorem AE {o:Oper}{act:Act}{W:World}(p q:Operand)(ho:o.op=.binOp .xor 3 p q 3)(u:Nat)(hu:u<18446744073709551616)(hp:act.eval p=.int .i64 ((u/2:Nat):Int))(hq:act.eval q=.int .i64 (-((u%2:Nat):Int))):(execOp act.eval o).run Tryz.prog W=.ok (.value (.int .i64 (dT u))) W:=by
 have h:=sK u hu
 have h':(binOp .xor 3 (.int .i64 ((u/2:Nat):Int)) (.int .i64 (-((u%2:Nat):Int)))).run Tryz.prog W=.ok (.int .i64 (dT u)) W:=by rw[<-h];kernel_rfl
 unfold execOp
 simp only[ho,hp,hq]
 rw[show (eqGuard .xor 3 p q (.int .i64 ((u/2:Nat):Int)) (.int .i64 (-((u%2:Nat):Int))))=pure () from rfl]
 simp only[Sem.run_bind,Sem.run_pure,Result.andThen_ok,h']
theorem mp {u:Nat}(h:u<18446744073709551616):bQ (dT u):=by unfold dT bQ;split<;>omega
theorem wB (u:Nat)(w:World)(hu:u<18446744073709551616) :
  Calls Tryz.prog 143 #[.int .u64 (u:Int)] w fun e w'=>e=.returned (.int .i64 (dT u))/\w=w':=by
 have HU:=aa hu
 have h1:u/2<9223372036854775808:=om
 have h2:u%2<9223372036854775808:=om
 have h3:u%2<2:=om
 have H1:=aa h1
 have H2:=aa h2
 have H3:=aa h3
 clear hu h1 h2 h3
 go_enter Tryz.func143,Tryz.ntmps143
 go_wp2_with (first
  | (refine aG (.int .u64 ((u/2:Nat):Int)) rfl (AB (.tmp 3) (.const (.int .u64 1)) rfl u rfl rfl) ?_;simp only[Act.put,zp])
  | (refine aG (.int .i64 ((u/2:Nat):Int)) rfl (fC (.tmp 4) rfl (u/2) H1.out rfl) ?_;simp only[Act.put,zp])
  | (refine aG (.int .u64 ((u%2:Nat):Int)) rfl (AC (.tmp 6) (.const (.int .u64 1)) rfl u HU.out rfl rfl) ?_;simp only[Act.put,zp])
  | (refine aG (.int .i64 ((u%2:Nat):Int)) rfl (fC (.tmp 7) rfl (u%2) H2.out rfl) ?_;simp only[Act.put,zp])
  | (refine aG (.int .i64 (-((u%2:Nat):Int))) rfl (AD (.tmp 8) rfl (u%2) H3.out rfl) ?_;simp only[Act.put,zp])
  | (refine aG (.int .i64 (dT u)) rfl (AE (.tmp 5) (.tmp 9) rfl u HU.out rfl rfl) ?_;simp only[Act.put,zp]))
 go_ret
 exact⟨rfl,rfl⟩
def dW {α:Type}(m:Nat)(R:World->List Value->α->Prop)(w:World)(vs:List Value)(xs:List α):Prop:=vs.length=xs.length*m/\∀i x,xs[i]? = some x->∃L:List Value,L.length=m/\R w L x/\∀j v,L[j]? = some v->vs[i*m+j]? = some v
theorem dW.below {α:Type}{m:Nat}{R:World->List Value->α->Prop}(hR:ju R){w w':World}{vs:List Value}{xs:List α}(h:dW m R w vs xs)(hb:Below w.heap.size w w'):dW m R w' vs xs:=
 ⟨h.1,fun i x hx=>by obtain⟨L,h1,h2,h3⟩:=h.2 i x hx;exact⟨L,h1,hR _ _ _ _ hb h2,h3⟩⟩
theorem dW.snoc {α:Type}{m:Nat}{R:World->List Value->α->Prop}{w:World}{vs L:List Value}{xs:List α}{x:α}(h:dW m R w vs xs)(hl:L.length=m)(hr:R w L x):dW m R w (vs++L) (xs++[x]):=by
 refine⟨by simp[h.1,hl,Nat.add_mul],fun i y hy => ?_⟩
 rcases Nat.lt_or_ge i xs.length with hi|hi
 ·rw[List.getElem?_append_left hi]at hy
  obtain⟨M,h1,h2,h3⟩:=h.2 i y hy
  refine⟨M,h1,h2,fun j v hv => ?_⟩
  have hj:=(List.getElem?_eq_some_iff.1 hv).1
  have h4:i*m+m<=xs.length*m:=by
   have:=Nat.mul_le_mul_right m (show i+1<=xs.length by omega)
   rwa [Nat.add_mul,Nat.one_mul]at this
  rw[List.getElem?_append_left (by rw[h.1];omega)]
  exact h3 j v hv
 ·rw[List.getElem?_append_right hi]at hy
  obtain rfl:i=xs.length:=by
   rcases Nat.eq_zero_or_pos (i-xs.length) with h0|h0
   ·omega
   ·rw[List.getElem?_eq_none (by simp;omega)]at hy;cases hy
  rw[Nat.sub_self]at hy
  simp only[List.getElem?_cons_zero,Option.some.injEq]at hy
  subst hy
  refine⟨L,hl,hr,fun j v hv => ?_⟩
  rw[List.getElem?_append_right (by rw[h.1];omega),h.1,Nat.add_sub_cancel_left]
  exact hv
theorem Sl.flat {α:Type}{m:Nat}(hm:0<m){R:World->List Value->α->Prop}(h1:∀w L x,R w L x->∀v ∈ L,v.oneCell'=true){w:World}{a:Option Addr}{n:Nat}{xs:List α}(h:Sl m R w a n xs) :
  ∃vs:List Value,vs.length=n*m/\(a=none->n=0)/\(∀ad,a=some ad->∀j u,vs[j]? = some u->w.cell? (ad.add j)=some u)/\(∀u ∈ vs,u.oneCell'=true)/\dW m R w vs xs:=by
 obtain⟨hl,h⟩:=h
 rcases h with rfl|⟨b,off,rfl,hc⟩
 ·obtain rfl:xs=[]:=List.eq_nil_of_length_eq_zero hl
  exact⟨[],by simp,fun _=>rfl,fun _ _ j u hu=>by simp at hu,fun u hu=>by simp at hu,by simp,fun i x hx=>by simp at hx⟩
 ·have hg:∀k,k<n*m->∃i x L,xs[i]? = some x/\L.length=m/\R w L x/\k=i*m+k%m/\(∀j v,L[j]? = some v->w.cell? ⟨b,off+i*m+j,none⟩=some v):=fun k hk=>by
   have hi:k/m<n:=(Nat.div_lt_iff_lt_mul hm).2 hk
   obtain⟨x,hx⟩:∃x,xs[k/m]? = some x:=⟨_,List.getElem?_eq_getElem (by rw[hl];exact hi)⟩
   obtain⟨L,g1,g2,g3⟩:=hc _ x hx
   exact⟨k/m,x,L,hx,g1,g2,by rw[Nat.mul_comm];exact(Nat.div_add_mod k m).symm,g3⟩
  have hv:∀k,k<n*m->∃v,w.cell? ⟨b,off+k,none⟩=some v/\v.oneCell'=true:=fun k hk=>by
   obtain⟨i,x,L,g0,g1,g2,g3,g4⟩:=hg k hk
   have hlt:k%m<L.length:=by rw[g1];exact Nat.mod_lt _ hm
   refine⟨L[k%m],?_,h1 _ _ _ g2 _ (List.getElem_mem hlt)⟩
   rw[show off+k=off+i*m+k%m by omega]
   exact g4 _ _ (List.getElem?_eq_getElem hlt)
  have hget:∀(k:Nat) (u:Value),((List.range (n*m)).map fun k=>(w.cell? ⟨b,off+k,none⟩).getD (.bool false))[k]? = some u->w.cell? ⟨b,off+k,none⟩=some u/\u.oneCell'=true:=fun k u hu=>by
   have hk:k<n*m:=by have:=(List.getElem?_eq_some_iff.1 hu).1;simpa using this
   obtain⟨v,h2,h3⟩:=hv k hk
   rw[List.getElem?_map,List.getElem?_range hk]at hu
   simp only[Option.map_some,h2,Option.getD_some,Option.some.injEq]at hu
   subst hu
   exact⟨h2,h3⟩
  refine⟨(List.range (n*m)).map fun k=>(w.cell? ⟨b,off+k,none⟩).getD (.bool false),by simp,fun h=>(by cases h),fun ad had j u hu => ?_,fun u hu => ?_,by simp[hl],fun i x hx => ?_⟩
  ·cases had
   rw[Addr.add_lit]
   exact(hget j u hu).1
  ·obtain⟨k,hk⟩:=List.getElem?_of_mem hu
   exact(hget k u hk).2
  ·obtain⟨L,g1,g2,g3⟩:=hc i x hx
   refine⟨L,g1,g2,fun j v hj => ?_⟩
   have hi:i<n:=by rw[<-hl];exact(List.getElem?_eq_some_iff.1 hx).1
   have hjm:j<m:=by rw[<-g1];exact(List.getElem?_eq_some_iff.1 hj).1
   have h4:i*m+m<=n*m:=by
    have:=Nat.mul_le_mul_right m (show i+1<=n by omega)
    rwa [Nat.add_mul,Nat.one_mul]at this
   rw[List.getElem?_map,List.getElem?_range om]
   have:=g3 j v hj
   simp only[Option.map_some,<-Nat.add_assoc,this,Option.getD_some]
theorem eB {α:Type}{m:Nat}(_hm:0<m){R:World->List Value->α->Prop}{w:World}{base:Nat}{e:TypeId}{a:Option Addr}{n c:Nat}{vs:List Value}(h:w.ownsRow base e m (.slice a n c) n vs)(xs:List α)(hl:xs.length=n)
  (hR:dW m R w vs xs):n<=c/\Sl m R w a n xs:=by
 rcases h.2 with ⟨h1,rfl⟩|⟨g,cap,cur,h1,_,hh,h2,h3,h4,h5⟩
 ·cases h1
  exact⟨Nat.le_refl _,hl,.inl rfl⟩
 ·simp only[Value.slice.injEq,true_and]at h1
  obtain⟨rfl,rfl⟩:=h1
  refine⟨h2,hl,.inr ⟨g,0,rfl,fun i x hx => ?_⟩⟩
  obtain⟨L,g1,g2,g3⟩:=hR.2 i x hx
  refine⟨L,g1,g2,fun j v hv => ?_⟩
  have hu:=g3 j v hv
  rw[<-h5,List.getElem?_take]at hu
  split at hu
  ·simpa[World.cell?,hh] using hu
  ·cases hu
theorem iO (w:World)(L:List Value)(x:ar)(h:aq w L x):∀v ∈ L,v.oneCell'=true:=by
 obtain⟨a,n,c,rfl,_⟩:=h
 have:=bM x a n c
 simpa using this
theorem ww : ∀(l:List UInt8),l.length=32->∃b0 b1 b2 b3 b4 b5 b6 b7 b8 b9 b10 b11 b12 b13 b14 b15 b16 b17 b18 b19 b20 b21 b22 b23 b24 b25 b26 b27 b28 b29 b30 b31,l=[b0,b1,b2,b3,b4,b5,b6,b7,b8,b9,b10,b11,b12,b13,b14,b15,b16,b17,b18,b19,b20,b21,b22,b23,b24,b25,b26,b27,b28,b29,b30,b31]:=by
 intro l h
 match l,h with
 | [b0,b1,b2,b3,b4,b5,b6,b7,b8,b9,b10,b11,b12,b13,b14,b15,b16,b17,b18,b19,b20,b21,b22,b23,b24,b25,b26,b27,b28,b29,b30,b31],_=>exact⟨_,_,_,_,_,_,_,_,_,_,_,_,_,_,_,_,_,_,_,_,_,_,_,_,_,_,_,_,_,_,_,_,rfl⟩
theorem pk (W:World)(x:ar)(hp:x.prev.length=32)(a:Option Addr)(n c:Nat) :
  (Instr.build 50 #[(0,.int .i64 x.node),(1,.int .i64 x.no),(2,br x.prev),(3,.slice a n c)]).run Tryz.prog W=.ok (.agg (ah x a n c).toArray) W:=by
 obtain⟨no,nd,p,d⟩:=x
 obtain⟨b0,b1,b2,b3,b4,b5,b6,b7,b8,b9,b10,b11,b12,b13,b14,b15,b16,b17,b18,b19,b20,b21,b22,b23,b24,b25,b26,b27,b28,b29,b30,b31,rfl⟩:=ww p hp
 exact run_build W 50 _ _ kr
theorem dJ {o:Oper}{act:Act}{W:World}(p0 p1 p2 p3:Operand)(ho:o.op=.build 50 #[(0,p0),(1,p1),(2,p2),(3,p3)])(x:ar)(hp:x.prev.length=32)(a:Option Addr)(n c:Nat)
  (h0:act.eval p0=.int .i64 x.node) (h1:act.eval p1=.int .i64 x.no) (h2:act.eval p2=br x.prev) (h3:act.eval p3=.slice a n c):(execOp act.eval o).run Tryz.prog W=.ok (.value (.agg (ah x a n c).toArray)) W:=by
 unfold execOp
 simp only[ho,List.map_toArray,List.map_cons,List.map_nil,h0,h1,h2,h3,Sem.run_bind,Sem.run_pure,Result.andThen_ok,pk W x hp a n c]
theorem C9 (W:World)(x:ar)(hp:x.prev.length=32)(a:Option Addr)(n c:Nat) :
  (Instr.buildSlice 30 1 #[(0,.agg (ah x a n c).toArray)]).run Tryz.prog W=.ok (.slice (some ⟨W.heap.size,0,none⟩) 1 1) (W.alloc (.cells (ah x a n c).toArray 50)):=by
 obtain⟨no,nd,p,d⟩:=x
 obtain⟨b0,b1,b2,b3,b4,b5,b6,b7,b8,b9,b10,b11,b12,b13,b14,b15,b16,b17,b18,b19,b20,b21,b22,b23,b24,b25,b26,b27,b28,b29,b30,b31,rfl⟩:=ww p hp
 kernel_rfl
theorem gW {o:Oper}{act:Act}{W:World}(p0:Operand)(ho:o.op=.buildSlice 30 1 #[(0,p0)])(x:ar)(hp:x.prev.length=32)(a:Option Addr)(n c:Nat)
  (h0:act.eval p0=.agg (ah x a n c).toArray):(execOp act.eval o).run Tryz.prog W=.ok (.value (.slice (some ⟨W.heap.size,0,none⟩) 1 1)) (W.alloc (.cells (ah x a n c).toArray 50)):=by
 unfold execOp
 simp only[ho,List.map_toArray,List.map_cons,List.map_nil,h0,Sem.run_bind,Sem.run_pure,Result.andThen_ok,C9 W x hp a n c]
theorem aO {P:Program}{o:Oper}{a:Act}{w w':World}{K:Act->World->Prop}{Q:Exit->Act->World->Prop}(v:Value)(hr:(execOp a.eval o).run P w=.ok (.value v) w')(h:K (a.put o.dst v) w'):o.wp P a w K Q:=by
 unfold Oper.wp
 rw[hr,Oper.upon_value]
 exact h
theorem oo {P:Program}(w:World){o:Oper}{a:Act}{K:Act->World->Prop}{Q:Exit->Act->World->Prop}
  (s x:Operand) (t:TypeId) (hop:o.op=Op.call { callee:=Callee.builtin Builtin.append,args:=#[s,x],argTypes:=#[t,t] })
  (e:TypeId) (i:TypeInfo) (z:Value) (size bytes:Nat) (h1:P.underlying t=some (.slice e)) (h2:P.info? e=some i) (h3:i.zero=some z) (h4:i.size=size) (h5:i.bytes=bytes) (h6:z.cells.size=size) (h7:0<size)
  (ao:Option Addr) (n cap:Nat) (olds:List Value) (hs:a.eval s=.slice ao n cap) (hnone:ao=none->n=0/\cap=0) (hlo:olds.length=n*size) (holds:∀b,ao=some b->∀j u,olds[j]? = some u->w.cell? (b.add j)=some u)
  (ad:Addr) (m c:Nat) (news:List Value) (hx:a.eval x=.slice (some ad) m c) (hn:news.length=m*size) (hc:∀j u,news[j]? = some u->w.cell? (ad.add j)=some u) (h1c:∀u ∈ news,u.oneCell'=true)
  (hfull:cap<n+m) (b1:n+m<=maxLen) (b2:(n+m)*bytes<=140737488355328)
  (hK:∀v' w',w'.ownsRow w.heap.size e size v' (n+m) (olds++news)->w.grownBy w' none->K (a.put o.dst v') w'):o.wp P a w K Q:=by
 cases ao with
 | some b =>
  obtain⟨v',w',hrun,r1,r2⟩:=run_append_arg_grows (P:=P) w t o.type e i z size bytes h1 h2 h3 h4 h5 h6 h7 b n cap olds hlo (holds b rfl) ad m c news hn hc hfull b1 b2
  unfold Oper.wp
  simp[execOp,hop,resolve,invoke,builtin,hs,hx,hrun,Result.andThen]
  exact hK v' w' r1 r2
 | none =>
  obtain⟨rfl,rfl⟩:=hnone rfl
  obtain rfl:olds=[]:=List.eq_nil_of_length_eq_zero (by simpa using hlo)
  obtain⟨v',w',hrun,r1,r2,_⟩:=run_append_own (P:=P) w w.heap.size t o.type e i z size bytes h1 h2 h3 h4 h5 h6 h7 (.slice none 0 0) 0 [] (World.ownsRow_nil w _ e size) ad m c news hn hc h1c b1 b2 (Nat.le_refl _)
  unfold Oper.wp
  simp[execOp,hop,resolve,invoke,builtin,hs,hx,hrun,Result.andThen]
  exact hK v' w' r1 r2
section
variable {P : Program} {md : Region.Mode} {ops : Array Oper} {Q : Exit -> Act -> World -> Prop} {S : World -> Prop} {z : Nat} {F : Fence} {n : Nat}
def jh (F:Fence):Prop:=∃r,F={ Fence.wide with round:=r }
theorem lH : jh Fence.wide:=⟨none,rfl⟩
theorem eY (l:Nat):jh (Fence.wide.inRound l):=⟨some l,rfl⟩
def es (o:Oper):Bool:=match o.op with | .defer _=>false|_=>true
theorem rg {o:Oper}(h:es o=true):∀c,o.op ≠ .defer c:=fun c e=>by simp[es,e]at h
theorem Oper.open_of_wp {o:Oper}{a:Act}{w:World}{next:Act->World->Prop}(hF:jh F)(hd:es o=true)(h:o.wp P a w next Q):o.wpIn F n P a w next Q:=by
 obtain⟨r,rfl⟩:=hF
 refine⟨fun _ _=>trivial,?_⟩
 rw[Oper.semAt_eq _ _ _ (rg hd)]
 unfold Oper.wp at h
 generalize (execOp a.eval o).run P w=res at h
 cases res with
 | ok nx w' =>
  cases nx with
  | value v=>exact h
  | skip=>exact h
  | defer d=>exact h
  | enter f args=>exact⟨fun hh=>by simp[Fence.wide]at hh,callsIn_wide.2 h⟩
  | row row args=>exact⟨fun hh=>by simp[Fence.wide]at hh,fun c cs _=>let ⟨v,w',r,s⟩:=h c cs; ⟨v,w',r,stepsIn_wide.2 s⟩⟩
  | _=>exact h.elim
 | halt x w' =>
  cases x with
  | panic v=>exact h
  | _=>exact h.elim
theorem lI (hF:jh F)(hQ:¬LetsOut Q):∀(l:List Oper) (a:Act) (w:World),l.all es=true->wpList P ops Q l a w->wpListIn F n P ops Q l a w
 | [],_,_,_,h=>h
 | o::l,a,w,hd,h=>by
  simp only[List.all_cons,Bool.and_eq_true]at hd
  unfold wpList at h
  unfold wpListIn
  split
  ·rename_i hw
   rw[if_pos hw]at h
   rcases h with h|h
   ·exact Oper.open_of_wp hF hd.1 (Oper.wp_mono (fun a' w' h'=>lI hF hQ l a' w' hd.2 h') h)
   ·exact absurd h.2 hQ
  ·rename_i hw
   rw[if_neg hw]at h
   refine⟨fun _ _ => ?_,lI hF hQ l _ _ hd.2 h⟩
   obtain⟨r,rfl⟩:=hF
   trivial
theorem fT {id:Nat}{l:List Oper}{a:Act}{w:World}(hF:jh F)(hd:l.all es=true)(hQ:¬LetsOut Q)(h:wpList P l.toArray Q l a w):(Code.region id l.toArray false).wpIn F n P Q a w:=
 wpIn_region_lit (lI hF hQ l a w hd h)
def eC (F:Fence)(n:Nat)(P:Program)(md:Region.Mode)(ops:Array Oper)(Q:Exit->Act->World->Prop)(S:World->Prop)(z:Nat):Nat->Array Bool->Act->World->Prop
 | 0,l,a,w=>Region.ready md ops l=[]/\Q .normal a w
 | k+1,l,a,w=>(Region.ready md ops l=[]->Q .normal a w) /\
  ∀i ∈ Region.ready md ops l,(i=z/\wpOpIn F n P ops Q i (eC F n P md ops Q S z k (l.setIfInBounds i true)) a w) \/
   (i≠z/\wpOp P ops Q i (fun a' w'=>(l.getD z false=true\/S w')/\eC F n P md ops Q S z k (l.setIfInBounds i true) a' w') a w)
theorem tu {i:Nat}{K:Act->World->Prop}{a:Act}{w:World}(hF:jh F)(hd:ops.toList.all es=true)(hQ:¬LetsOut Q)(h:wpOp P ops Q i K a w):wpOpIn F n P ops Q i K a w:=by
 unfold wpOp at h
 unfold wpOpIn
 cases ho:ops[i]? with
 | none=>simpa[ho] using h
 | some o =>
  simp only[ho]at h ⊢
  have hdo:es o=true:=List.all_eq_true.1 hd o (by
   obtain⟨h1,h2⟩:=Array.getElem?_eq_some_iff.1 ho
   rw[<-h2];exact Array.getElem_mem_toList h1)
  split
  ·rename_i hw
   rw[if_pos hw]at h
   rcases h with h|h
   ·exact Oper.open_of_wp hF hdo h
   ·exact absurd h.2 hQ
  ·rename_i hw
   rw[if_neg hw]at h
   refine⟨fun _ _ => ?_,h⟩
   obtain⟨r,rfl⟩:=hF
   trivial
theorem jY (hF:jh F)(hd:ops.toList.all es=true)(hQ:¬LetsOut Q):∀(k:Nat) (l:Array Bool) (a:Act) (w:World),eC F n P md ops Q S z k l a w->wpAnyIn F n P md ops Q k l a w
 | 0,_,_,_,h=>h
 | k+1,_,_,_,h=>⟨h.1,fun i hi=>by
  rcases h.2 i hi with ⟨_,h2⟩|⟨_,h2⟩
  ·exact wpOpIn_mono (fun a' w' h'=>jY hF hd hQ k _ a' w' h') h2
  ·exact wpOpIn_mono (fun a' w' h'=>jY hF hd hQ k _ a' w' h'.2) (tu hF hd hQ h2)⟩
theorem rh (hF:jh F)(hd:ops.toList.all es=true)(hQ:¬LetsOut Q):∀(k:Nat) (l:Array Bool) (a:Act) (w:World),wpAny P md ops Q k l a w->wpAnyIn F n P md ops Q k l a w
 | 0,_,_,_,h=>h
 | k+1,_,_,_,h=>⟨h.1,fun i hi=>wpOpIn_mono (fun a' w' h'=>rh hF hd hQ k _ a' w' h') (tu hF hd hQ (h.2 i hi))⟩
theorem mA (hF:jh F){id:Nat}{l:List Oper}{a:Act}{w:World}(hm:P.follows .mixedOrders=true)(hB:Region.lexB .any l.toArray=true)(hd:l.all es=true)(hQ:¬LetsOut Q)
  (h:wpStill P l.toArray { w with drawn:=w.drawn+1 } (fun a'=>Q .normal a' { w with drawn:=w.drawn+1 }) l a):(Code.region id l.toArray true).wpIn F n P Q a w:=by
 simp only[Region.lexB,Bool.and_eq_true]at hB
 refine wpIn_region_any hm (rh hF (by simpa using hd) hQ _ _ _ _ (wpAny_of_still (Q:=fun a'=>Q .normal a' { w with drawn:=w.drawn+1 }) (fun _ h=>h) _ _ _ ?_))
 have:=wpAnyS_lex (md:=.any) hB.1 l 0 (Array.replicate l.toArray.size false) a (by simp) (by simpa using hB.2) h
 simpa using this
theorem fB {w:World}{K:Act->Prop}{a:Act}{o:Oper}{rest:List Oper}(v:Value)(hw:Region.wanted o (yielded ops a.tmps)=true)(hr:(execOp a.eval o).run P w=.ok (.value v) w)(h:wpStill P ops w K rest (a.put o.dst v)):wpStill P ops w K (o::rest) a:=by
 refine wpStill_step fun K' hK => ?_
 rw[if_pos hw]
 unfold Oper.still
 rw[hr,Oper.stillUpon_value]
 exact hK _ h
def po (md:Region.Mode)(ops:Array Oper)(U:List Nat)(i:Nat):Bool:=U.all fun u=>u == i || U.any fun v=>gC md ops u v
theorem wy {u v:Nat}{l:Array Bool}(hw:gC md ops u v=true)(hv:l.getD v true=false):u ∉ Region.ready md ops l:=by
 intro hz
 obtain⟨_,oz,hoz,hall⟩:=mem_ready.1 hz
 simp only[gC,hoz,Option.map_some,Option.getD_some,Array.any_eq_true,Bool.and_eq_true,beq_iff_eq]at hw
 obtain⟨q,hq,hb,he⟩:=hw
 have h1:=hall _ (Array.getElem_mem hq) hb
 rw[he]at h1
 by_cases hlt:v<l.size
 ·simp[hlt]at hv h1
  rw[hv]at h1
  cases h1
 ·simp[Array.getElem?_eq_none (Nat.le_of_not_lt hlt)]at h1
theorem sJ {U:List Nat}{i u:Nat}{l:Array Bool}(hc:po md ops U i=true)(hl:∀v ∈ U,l.getD v true=false)(hu:u ∈ U)(hne:u≠i):u ∉ Region.ready md ops l:=by
 have h1:=List.all_eq_true.1 hc u hu
 simp only[Bool.or_eq_true,beq_iff_eq,List.any_eq_true]at h1
 rcases h1 with h1|⟨v,hv,hw⟩
 ·exact absurd h1 hne
 ·exact wy hw (hl v hv)
theorem ur {i:Nat}{o:Oper}{v:Value}{U:List Nat}(hi:ops[i]? = some o)(hns:∀(j:Nat) (o:Oper) cs b,ops[j]? = some o->o.op ≠ .select cs b)(hQ:∀c a w,Q (.panic c) (a.put o.dst v) w->Q (.panic c) a w)
  (hw:po md ops U i=true) (hzU:z ∈ U) (hzi:i≠z) (k:Nat) :
  ∀(l:Array Bool) (a:Act) (w:World),(∀u ∈ U,l.getD u true=false)->(∀j oj,ops[j]? = some oj->j≠i->l.getD j true=false->(∀e ∈ oj.after,Region.binds md e=true->e.on≠i)->o.apart ops oj=true) ->
   i ∈ Region.ready md ops l->YieldsIf P ops S o v a->S w->eC F n P md ops Q S z k (l.setIfInBounds i true) (a.put o.dst v) w->eC F n P md ops Q S z (k+1) l a w:=by
 induction k with
 | zero =>
  intro l a w _ _ hr hy hS h
  refine⟨fun h0=>(by rw[h0]at hr;cases hr),fun j hj=>.inr ?_⟩
  by_cases hji:j=i
  ·subst hji
   exact⟨hzi,hy.wpOp hi hS ⟨.inr hS,h⟩⟩
  ·have h2:=ready_mono hj hji
   rw[h.1]at h2
   cases h2
 | succ k ih =>
  intro l a w hU hap hr hy hS h
  refine⟨fun h0=>(by rw[h0]at hr;cases hr),fun j hj=>.inr ?_⟩
  by_cases hji:j=i
  ·subst hji
   exact⟨hzi,hy.wpOp hi hS ⟨.inr hS,h⟩⟩
  ·have hjU:j ∉ U:=fun hm=>sJ hw hU hm hji hj
   have hjz:j≠z:=fun e=>hjU (by rw[e];exact hzU)
   obtain⟨hl,oj,hoj,hall⟩:=mem_ready.1 hj
   have hl0:=(mem_ready.1 hr).1
   have hno:∀e ∈ oj.after,Region.binds md e=true->e.on≠i:=by
    rintro e he hb rfl
    have h1:=hall e he hb
    by_cases hlt:e.on<l.size
    ·simp[hlt]at hl0 h1
     rw[hl0]at h1
     cases h1
    ·simp[Array.getElem?_eq_none (Nat.le_of_not_lt hlt)]at h1
   refine⟨hjz,?_⟩
   have h3:=(h.2 j (ready_mono hj hji)).resolve_left (fun e=>hjz e.1)
   refine wpOp_mono ?_ (wpOp_putIf hoj (hap j oj hoj hji hl hno) (fun cs b=>hns i o cs b hi) (fun cs b=>hns j oj cs b hoj) hQ hy h3.2)
   rintro a' w' ⟨hy',hT,hk⟩
   have hlz:l.getD z true=false:=hU z hzU
   have hS':S w':=hT.resolve_left (fun e=>by
    rw[getD_set_ne false (Ne.symm (Ne.symm hzi))]at e
    by_cases hlt:z<l.size
    ·simp[hlt]at hlz e
     rw[hlz]at e
     cases e
    ·simp[Array.getElem?_eq_none (Nat.le_of_not_lt hlt)]at e)
   rw[Array.setIfInBounds_comm _ _ (Ne.symm hji)]at hk
   refine⟨.inr hS',ih _ a' w' ?_ ?_ (ready_mono hr (Ne.symm hji)) hy' hS' hk⟩
   ·intro u hu
    rw[getD_set_ne true (fun e=>hjU (by rw[e];exact hu))]
    exact hU u hu
   intro q oq hoq hqi hlq hnq
   refine hap q oq hoq hqi ?_ hnq
   by_cases hjq:j=q
   ·subst hjq;exact hl
   ·rw[getD_set_ne true hjq]at hlq;exact hlq
theorem jB (i:Nat)(U:List Nat){o:Oper}(v:Value){k:Nat}{l:Array Bool}{a:Act}{w:World}(hi:ops[i]? = some o)(hs:Region.noSelect ops=true)(hf:Region.free md ops l i=true)(hr:(Region.ready md ops l).contains i=true)
  (hw:(po md ops U i && U.contains z && (i != z) && U.all fun u => !l.getD u true)=true) (hQ:∀c a w,Q (.panic c) (a.put o.dst v) w->Q (.panic c) a w) (hg:o.guard=none) (hy:∀W,S W->(execOp a.eval o).run P W=.ok (.value v) W) (hS:S w)
  (h:eC F n P md ops Q S z k (l.setIfInBounds i true) (a.put o.dst v) w):eC F n P md ops Q S z (k+1) l a w:=by
 simp only[Bool.and_eq_true,List.all_eq_true,List.contains_eq_mem,decide_eq_true_eq,bne_iff_ne,ne_eq,Bool.not_eq_true']at hw
 exact ur hi (Region.noSelect_spec hs) hQ hw.1.1.1 hw.1.1.2 hw.1.2 k l a w hw.2 (Region.free_spec hi hf) (by simpa using hr) (.inl ⟨by simp[Region.wanted,hg],hy⟩) hS h
theorem kP (i:Nat){o:Oper}{k:Nat}{l:Array Bool}{a:Act}{w:World}(hr:Region.ready md ops l=[i])(hi:ops[i]? = some o)(hz:i≠z)(hg:o.guard=none)
  (h:o.wp P a w (fun a' w'=>(l.getD z false=true\/S w')/\eC F n P md ops Q S z k (l.setIfInBounds i true) a' w') Q):eC F n P md ops Q S z (k+1) l a w:=by
 refine⟨fun h0=>(by rw[hr]at h0;cases h0),fun j hj=>.inr ?_⟩
 rw[hr]at hj
 obtain rfl:j=i:=by simpa using hj
 refine⟨hz,?_⟩
 unfold wpOp
 simp only[hi]
 rw[if_pos (by simp[Region.wanted,hg])]
 exact .inl h
theorem BH {o:Oper}{k:Nat}{l:Array Bool}{a:Act}{w:World}(hr:Region.ready md ops l=[z])(hi:ops[z]? = some o)(hg:o.guard=none)
  (h:o.wpIn F n P a w (eC F n P md ops Q S z k (l.setIfInBounds z true)) Q):eC F n P md ops Q S z (k+1) l a w:=by
 refine⟨fun h0=>(by rw[hr]at h0;cases h0),fun j hj=>.inl ?_⟩
 rw[hr]at hj
 obtain rfl:j=z:=by simpa using hj
 refine⟨rfl,?_⟩
 unfold wpOpIn
 simp only[hi]
 rw[if_pos (by simp[Region.wanted,hg])]
 exact h
theorem pN {k:Nat}{l:Array Bool}{a:Act}{w:World}(hr:Region.ready md ops l=[])(h:Q .normal a w):eC F n P md ops Q S z k l a w:=by
 cases k with
 | zero=>exact⟨hr,h⟩
 | succ k=>exact⟨fun _=>h,by rw[hr];simp⟩
theorem nt (hF:jh F)(S:World->Prop)(z:Nat){id:Nat}{a:Act}{w:World}(hm:P.follows .mixedOrders=true)(hd:ops.toList.all es=true)(hQ:¬LetsOut Q)
  (h:eC F n P .any ops Q S z ops.size (Array.replicate ops.size false) a { w with drawn:=w.drawn+1 }):(Code.region id ops true).wpIn F n P Q a w:=
 wpIn_region_any hm (jY hF hd hQ _ _ _ _ h)
end
end Go.Proofs.YtmflnpdmlfmcpaaGreatDoor.Dr
namespace Go.Proofs.YtmflnpdmlfmcpaaGreatDoor.Dr
open Go.RowKit Go.Shelf
def mf {β:Type}(I:β->World->Prop):Prop:=∀s W W',I s W->Below W.heap.size W W'->I s W'
structure CellsKept (W W':World):Prop where
 size:W.heap.size<=W'.heap.size
 same:∀(k:Nat) (C:Array Value) (t:TypeId) (fr:Nat × Nat),W.heap[k]? = some (.cells C t fr)->W'.heap[k]? = some (.cells C t fr)
theorem CellsKept.of_below {W W':World}(h:Below W.heap.size W W'):CellsKept W W':=⟨h.size,fun k _ _ _ hk=>(h.block k (Array.getElem?_eq_some_iff.1 hk).1).trans hk⟩
theorem CellsKept.putObj (W:World){l:Nat}{o:Obj}(o':Obj)(hl:W.heap[l]? = some o)(ho:o.isCells=false):CellsKept W (W.putObj l o'):=
 ⟨by simp,fun k C t fr hk=>(World.putObj_heap_other (by rintro rfl;rw[hl]at hk;cases hk;cases ho)).trans hk⟩
theorem CellsKept.cell {W W':World}(h:CellsKept W W'){p:Addr}{v:Value}(hc:W.cell? p=some v):W'.cell? p=some v:=by
 have hb:W'.heap[p.block]? = W.heap[p.block]? := by
  unfold World.cell? at hc
  cases ho:W.heap[p.block]? with
  | none=>simp[ho]at hc
  | some o =>
   cases o with
   | cells C t fr=>exact h.same _ _ _ _ ho
   | _=>simp[ho]at hc
 rw[World.cell?_of_block hb]
 exact hc
def rj {α:Type}(F:Fence)(n:Nat)(P:Program)(g:Nat)(lb:Array Value)(encs:α->Array Value)(Kp:World->World->Prop)(ys:List α)(w:World):Prop:=
 ∀(l:Nat) (J:List α->World->Prop) (X:World->Prop) (W:World),Below w.heap.size w W->mf J->(∀W W',X W->Below W.heap.size W W'->X W') ->
  (∀pre x post W1,ys=pre++x::post->J pre W1->YieldAt F (n-1) P l (encs x) W1 fun e W'=>(e=.returned (.bool true)/\J (pre++[x]) W'/\Kp W1 W')\/(e=.returned (.bool false)/\X W')) ->
  J [] W->CallsIn F n P g (#[.func (.yield l) #[] #[]]++lb) W fun e W'=>(∃v,e=.returned v)/\(J ys W'\/X W')
def Ck (N R:World->Prop):Exit->Act->World->Prop
 | .normal,_,W=>N W
 | .ret,_,W=>R W
 | _,_,_=>False
theorem nu {α:Type}{F:Fence}{n:Nat}{P:Program}{g:Operand}{ps:Array Tmp}{assign body:Code}{Q:Exit->Act->World->Prop}{a:Act}{w:World}
  (hro:F.round=none) (h1:1<=n) {gf:Nat} {lb:Array Value} (hg:a.eval g=.func (.func gf) #[] lb) (hFg:F.fn gf) (eg:∀args w,(callFunc gf args).run P w=.ok (.enter gf args) w)
  {encs:α->Array Value} {Kp:World->World->Prop} {ys:List α} {w0:World} (hseq:rj F (n-1) P gf lb encs Kp ys w0) (hKt:∀ {A B C:World},Kp A B->Kp B C->Kp A C) (hKb:∀(W:World) (l:Nat) (o o':Obj),w.heap.size<=l->W.heap[l]? = some o->o.isCells=false->o.isWalk=false->Kp W (W.putObj l o')) (hKg:∀W W':World,w.heap.size<=W.heap.size->Below W.heap.size W W'->Kp W W') (hb0:Below w0.heap.size w0 w) (hps:∀x,(encs x).size=ps.size)
  (I:List α->World->Prop) (Ix:World->Prop) (hI:∀s W W',I s W->CellsKept W W'->Below w.heap.size W W'->I s W') (hIx:∀W W',Ix W->CellsKept W W'->Below w.heap.size W W'->Ix W') (h0:I [] w) (Ax:α->Act->World->Prop) (hAx:∀x a' W W',Ax x a' W->CellsKept W W'->Ax x a' W')
  (hassign:∀(l:Nat) (pre:List α) (x:α) (post:List α) (W:World) (K:Act->World->Prop),ys=pre++x::post->I pre W->w.heap.size<=W.heap.size->(∀a' W',Below W.heap.size W W'->Ax x a' W'->K a' W') ->
   assign.wpIn (F.inRound l) (n-1-1) P (Exit.then K (fun _ _ _=>False)) { tmps:=(ps.zip (encs x)).foldl (fun t (p,v)=>t.setIfInBounds p v) a.tmps,defers:=[] } W)
  (hbody:∀(l:Nat) (pre:List α) (x:α) (post:List α) (a':Act) (W:World),ys=pre++x::post->I pre W->Ax x a' W ->
   body.wpIn (F.inRound l) (n-1-1) P (Ck (fun W'=>KeepsFrom w.heap.size W W'/\Kp W W'/\I (pre++[x]) W') (fun W'=>KeepsFrom w.heap.size W W'/\Ix W')) a' W)
  (hdone:∀(D:Nat) (W:World),w.heap.size<=D->I ys W->W.heap[D]? = some (.deferred (some []))->Q .normal { a with defers:={ target:=.collected D,args:=#[] }::a.defers } W)
  (hstop:∀(D:Nat) (W:World),w.heap.size<=D->Ix W->W.heap[D]? = some (.deferred (some []))->Code.ret.wpIn F n P Q { a with defers:={ target:=.collected D,args:=#[] }::a.defers } W) :
  (Code.rangeFunc g ps assign body).wpIn F n P Q a w:=by
 refine wpIn_rangeFunc fun fn hfn => ?_
 rw[hro]
 obtain⟨D,hD⟩:=zg w.heap.size
 obtain⟨rc,hrc⟩:∃rc:LoopState->Option Code->Loop,rc=fun st pe=>{ state:=st,pending:=pe,fn,tmps:=a.tmps,params:=ps,assign,body,defers:=D }:=⟨_,rfl⟩
 obtain⟨V,hV⟩:=zg ((w.alloc (.deferred (some []))).alloc (.loop (rc .ready none)))
 have hBV:Below w.heap.size w V:=by rw[hV];exact((Below.refl _ w).alloc (Nat.le_refl _) _).alloc (by simp) _
 have hVD:V.heap[D]? = some (.deferred (some [])):=by rw[hV,hD];exact(Below.heap_alloc _ _ _ (by simp)).trans (World.alloc_heap_new w _)
 have hVL:V.heap[D+1]? = some (.loop (rc .ready none)):=by
  have:=World.alloc_heap_new (w.alloc (.deferred (some []))) (.loop (rc .ready none))
  rw[World.size_alloc]at this
  rw[hV,hD];exact this
 have hrun:(Instr.enterLoop fn a.tmps ps assign body none).run P w=.ok (D+1,[{ target:=.collected D,args:=#[] }]) V:=by
  rw[run_enterLoop_outer,hV,hrc,hD]
 refine⟨D+1,_,V,{ target:=.fn (.func gf) lb,args:=#[.func (.yield (D+1)) #[] #[]] },V,gf,#[.func (.yield (D+1)) #[] #[]]++lb,V,hrun,?_,?_,?_,fun _=>h1,?_⟩
 ·simp only[resolve,hg]
  simp[go_sem]
 ·intro f' hf'
  simp only[Target.leads]at hf'
  simp at hf'
  subst hf'
  exact hFg
 ·simp[invoke,go_sem,eg]
 refine CallsIn.mono (hseq (D+1) (fun pre W=>I pre W/\w.heap.size<=W.heap.size/\W.heap[D]? = some (.deferred (some []))/\W.heap[D+1]? = some (.loop (rc .ready none)))
  (fun W=>Ix W/\W.heap[D]? = some (.deferred (some []))/\W.heap[D+1]? = some (.loop (rc .done (some .ret)))) V (hb0.trans (hBV.mono hb0.size)) ?_ ?_ ?_ ?_) ?_
 ·rintro s W W' ⟨hi,hs,hd,hl⟩ hB
  have hlt:=(Array.getElem?_eq_some_iff.1 hl).1
  exact⟨hI s W W' hi (.of_below hB) (hB.mono hs),Nat.le_trans hs hB.size,(hB.block _ (Array.getElem?_eq_some_iff.1 hd).1).trans hd,(hB.block _ hlt).trans hl⟩
 ·rintro W W' ⟨hi,hd,hl⟩ hB
  have hlt:=(Array.getElem?_eq_some_iff.1 hl).1
  exact⟨hIx W W' hi (.of_below hB) (hB.mono om),(hB.block _ (Array.getElem?_eq_some_iff.1 hd).1).trans hd,(hB.block _ hlt).trans hl⟩
 ·rintro pre x post W hys ⟨hi,hs,hd,hl⟩
  have hyl:=run_yield (P:=P) (args:=encs x) hl (by rw[hrc];exact hps x)
  rw[hrc]at hyl
  refine⟨fn,_,assign,body,hyl,roundIn_of_wpIn hfn (hassign _ pre x post W _ hys hi hs ?_)⟩
  intro a' Wa hBa hax
  have hla:=(hBa.block _ (Array.getElem?_eq_some_iff.1 hl).1).trans hl
  have hda:=(hBa.block _ (Array.getElem?_eq_some_iff.1 hd).1).trans hd
  have hia:=hI _ _ _ hi (.of_below hBa) (hBa.mono hs)
  have hsa:=Nat.le_trans hs hBa.size
  have hkw:=hKg W Wa hs hBa
  refine⟨Wa.putObj (D+1) (.loop (rc .busy none)),?_,?_⟩
  ·have:=run_beginRound (P:=P) hla (by rw[hrc])
   rw[this,hrc]
  have hlt:D+1<Wa.heap.size:=(Array.getElem?_eq_some_iff.1 hla).1
  have hl2:(Wa.putObj (D+1) (.loop (rc .busy none))).heap[D+1]? = some (.loop (rc .busy none)):=World.putObj_heap_same hlt
  have hd2:(Wa.putObj (D+1) (.loop (rc .busy none))).heap[D]? = some (.deferred (some [])):=(World.putObj_heap_other om).trans hda
  have hk:CellsKept Wa (Wa.putObj (D+1) (.loop (rc .busy none))):=.putObj Wa _ hla rfl
  have hB2:Below w.heap.size Wa (Wa.putObj (D+1) (.loop (rc .busy none))):=belowK_b (w:=w) (Nat.le_refl _) Wa (D+1) _ _ om hla rfl rfl
  refine wpIn_mono (hbody (D+1) pre x post a' _ hys (hI _ _ _ hia hk hB2) (hAx _ _ _ _ hax hk)) ?_
  rintro e a3 W3 hp
  cases e with
  | normal =>
   obtain⟨h3,h4,h5⟩:=hp
   have hl3:=h3.same _ _ om hl2 rfl
   have hd3:=h3.same _ _ om hd2 rfl
   have hend:=run_endRound (P:=P) none hl3
   have hr3:({ rc .busy none with state:=if (none:Option Code).isNone then LoopState.ready else LoopState.done,pending:=none }:Loop)=rc .ready none:=by rw[hrc];rfl
   rw[hr3]at hend
   refine⟨_,_,hend,.inl ⟨rfl,⟨?_,?_,?_,World.putObj_heap_same (Array.getElem?_eq_some_iff.1 hl3).1⟩,?_⟩⟩
   ·exact hI _ _ _ h5 (.putObj W3 _ hl3 rfl) (belowK_b (w:=w) (Nat.le_refl _) W3 (D+1) _ _ om hl3 rfl rfl)
   ·have:=h3.size;simp at this ⊢;omega
   ·exact(World.putObj_heap_other om).trans hd3
   ·exact hKt hkw (hKt (hKt (hKb Wa (D+1) _ _ om hla rfl rfl) h4) (hKb W3 (D+1) _ _ om hl3 rfl rfl))
  | ret =>
   obtain⟨h3,h5⟩:=hp
   have hl3:=h3.same _ _ om hl2 rfl
   have hd3:=h3.same _ _ om hd2 rfl
   have hend:=run_endRound (P:=P) (some .ret) hl3
   have hr3:({ rc .busy none with state:=if (some Code.ret:Option Code).isNone then LoopState.ready else LoopState.done,pending:=some Code.ret }:Loop)=rc .done (some .ret):=by rw[hrc];rfl
   rw[hr3]at hend
   refine⟨_,_,hend,.inr ⟨rfl,?_,?_,World.putObj_heap_same (Array.getElem?_eq_some_iff.1 hl3).1⟩⟩
   ·exact hIx _ _ h5 (.putObj W3 _ hl3 rfl) (belowK_b (w:=w) (Nat.le_refl _) W3 (D+1) _ _ om hl3 rfl rfl)
   ·exact(World.putObj_heap_other om).trans hd3
  | exit id=>exact hp.elim
  | goto t=>exact hp.elim
  | panic ch=>exact hp.elim
  | outgrown=>exact hp.elim
 ·exact⟨hI _ _ _ h0 (.of_below hBV) hBV,hBV.size,hVD,hVL⟩
 ·rintro e W2 ⟨⟨v,rfl⟩,(⟨hi,hs,hd,hl⟩|⟨hi,hd,hl⟩)⟩
  ·have hend:=run_endLoop (P:=P) hl (by rw[hrc];simp)
   have hp:(rc .ready none).pending=none:=by rw[hrc]
   rw[hp]at hend
   refine⟨none,_,hend,?_⟩
   exact hdone D _ om (hI _ _ _ hi (.putObj W2 _ hl rfl) (belowK_b (w:=w) (Nat.le_refl _) W2 (D+1) _ _ om hl rfl rfl)) ((World.putObj_heap_other om).trans hd)
  ·have hend:=run_endLoop (P:=P) hl (by rw[hrc];simp)
   have hp:(rc .done (some .ret)).pending=some .ret:=by rw[hrc]
   rw[hp]at hend
   refine⟨some .ret,_,hend,?_⟩
   exact hstop D _ om (hIx _ _ hi (.putObj W2 _ hl rfl) (belowK_b (w:=w) (Nat.le_refl _) W2 (D+1) _ _ om hl rfl rfl)) ((World.putObj_heap_other om).trans hd)
theorem mO {n x:Nat}{pre post:List Nat}(h:List.range n=pre++x::post):pre=List.range x/\x<n:=by
 have hl:pre.length<n:=by
  have:=congrArg List.length h
  simp at this
  omega
 have hx:x=pre.length:=by
  have h1:=congrArg (fun q=>q[pre.length]?) h
  simp only[List.getElem?_append_right (Nat.le_refl _),Nat.sub_self,List.getElem?_cons_zero,List.getElem?_range hl,Option.some.injEq]at h1
  exact h1.symm
 subst hx
 refine⟨?_,hl⟩
 have h1:=congrArg (List.take pre.length) h
 rw[List.take_left,List.take_range,Nat.min_eq_left om]at h1
 exact h1.symm
theorem ut {n k:Nat}(h:k<n):List.range n=List.range k++k::(List.range n).drop (k+1):=by
 have h1:=List.take_append_drop k (List.range n)
 rw[List.take_range,Nat.min_eq_left om,List.drop_eq_getElem_cons (by simpa using h)]at h1
 simpa using h1.symm
theorem tv {α:Type}{m k n:Nat}{R:World->List Value->α->Prop}{w:World}{a:Option Addr}{l:List α}(h:Sl m R w a n l)(hk:k<=n):Sl m R w a k (l.take k):=by
 obtain⟨hl,h⟩:=h
 refine⟨by simp;omega,?_⟩
 rcases h with h|⟨b,off,ha,h⟩
 ·exact .inl om
 ·refine .inr ⟨b,off,ha,fun i x hx=>h i x ?_⟩
  rw[List.getElem?_take]at hx
  split at hx
  ·exact hx
  ·cases hx
def ii (f:Nat->List Value)(l:List ar)(k:Nat):Array Value:=#[.agg (f k).toArray,br (bR (l.take k))]
def km (B X:Nat)(W W':World):Prop:=Below B W W'/\∀v,W.cell? ⟨X,0,none⟩=some v->W'.cell? ⟨X,0,none⟩=some v
def wC (w:World)(a:Option Addr)(n:Nat)(l:List ar)(f:Nat->List Value):Prop:=n=0\/∃b off,a=some ⟨b,off,none⟩/\∀i x,l[i]? = some x->(f i).length=35/\aq w (f i) x/\w.rangeAt b (off+i*35) (f i)
theorem wD {w:World}{a:Option Addr}{n:Nat}{l:List ar}(h:Sl 35 aq w a n l):∃f,wC w a n l f:=by
 obtain⟨hl,h⟩:=h
 rcases h with h|⟨b,off,ha,h⟩
 ·exact⟨fun _=>[],.inl h⟩
 ·have hc:∀i,∃vs:List Value,∀x,l[i]? = some x->vs.length=35/\aq w vs x/\w.rangeAt b (off+i*35) vs:=fun i=>by
   cases hx:l[i]? with
   | none=>exact⟨[],fun x e=>by cases e⟩
   | some x =>
    obtain⟨vs,h1,h2,h3⟩:=h i x hx
    exact⟨vs,fun x' e=>by cases e;exact⟨h1,h2,fun j v hv=>h3 j v hv⟩⟩
  obtain⟨f,hf⟩:=Classical.axiomOfChoice hc
  exact⟨f,.inr ⟨b,off,ha,fun i x hx=>hf i x hx⟩⟩
theorem bS {w w':World}{b o:Nat}{vs:List Value}(hB:Below w.heap.size w w')(h:w.rangeAt b o vs):w'.rangeAt b o vs:=fun j v hv=>ag hB (h j v hv)
theorem aH {P:Program}{o:Oper}{a:Act}{W:World}(ty:TypeId)(x:Operand)(ho:o.op=.load ty x)(b off:Nat)(hx:a.eval x=.pointer (some ⟨b,off,none⟩))(cs:List Value)(d:TypeDesc)(hc:W.rangeAt b off cs)
  (hu:P.underlying ty=some d) (hd:d.isRow=true) (hi:(P.info? ty).map (·.size)=some cs.length):(execOp a.eval o).run P W=.ok (.value (.agg cs.toArray)) W:=by
 unfold execOp
 simp only[ho,hx,Sem.run_bind,Sem.run_pure,Result.andThen_ok,run_loadAt_mid W b off ty cs d hc hu hd hi]
theorem ac.range {W:World}{X:Nat}{t:TypeId}{L:List Value}(h:ac W X t L):W.rangeAt X 0 L:=fun j v hv=>by rw[Nat.zero_add];exact(ac.cell h j).trans hv
theorem wE (n':Nat)(w0 wA:World)(X:Nat)(a:Option Addr)(n c:Nat)(l:List ar)(f:Nat->List Value)(hA:Below w0.heap.size w0 wA)(hX:wA.cell? ⟨X,0,none⟩=some (.slice a n c))(hn:n<=100000)(hnc:n<=c)(hi:dV w0)(hd:∀x ∈ l,x.data.length<=100000)(h:Sl 35 aq w0 a n l)(hf:wC w0 a n l f) :
  rj Fence.wide n' Tryz.prog 129 #[.pointer (some ⟨X,0,none⟩)] (ii f l) (km w0.heap.size X) (List.range n) wA:=by
 intro lp J Xx W hW hG hGX hY h0
 refine callsIn_wide.2 ?_
 have HL:=aa h.len
 have H:=aa h
 have HX:=aa (ag hW hX)
 have hW:=hA.trans (hW.mono hA.size)
 have HY:=aa hY
 have HG:=aa hG
 have HGX:=aa hGX
 have HF:=aa hf
 have HI:=aa hi
 have HD:=aa hd
 clear h hY hG hX hGX hf hi hd
 show Calls Tryz.prog 129 #[.func (.yield lp) #[] #[],.pointer (some ⟨X,0,none⟩)] W fun e W'=>(∃v,e=.returned v)/\(J (List.range n) W'\/Xx W')
 have hx0:=HX.out
 go_enter Tryz.func129,Tryz.ntmps129
 go_wp2_with fail
 clear hx0
 go_loopw [7] (fun s7 wr=>∃k:Nat,k<=n/\s7=.int .i64 k/\J (List.range k) wr/\Below w0.heap.size w0 wr/\wr.cell? ⟨X,0,none⟩=some (.slice a n c)) (fun s7 _=>n-(intOf s7).toNat)
 case atStart=>exact⟨0,Nat.zero_le _,rfl,h0,hW,HX.out⟩
 case round =>
  obtain⟨k,hk,rfl,hJ,hB,hcX⟩:=hrel
  have HJ:=aa hJ
  have HCX:=aa hcX
  have hsz:=hB.size
  clear hJ hcX
  by_cases hlt:k<n
  ·obtain⟨x,hx⟩:=av HL.out hlt
   obtain⟨b,off,rfl,hf35,hfl,hfr⟩:∃b off,a=some ⟨b,off,none⟩/\(f k).length=35/\aq w0 (f k) x/\w0.rangeAt b (off+k*35) (f k):=by
    rcases HF.out with h0|⟨b,off,h0,hc⟩
    ·omega
    ·exact⟨b,off,h0,hc k x hx⟩
   obtain⟨L,hL⟩:=zg (f k)
   rw[<-hL]at hf35 hfl hfr
   have HLL:=aa hL
   have hone:L.toArray.all (·.oneCell')=true:=by
    obtain⟨da,dn,dc,e,_⟩:=hfl
    rw[e];exact bM x da dn dc
   have HONE:=aa hone
   have hi37:(Tryz.prog.info? 50).map (·.size)=some L.length:=by rw[hf35];exact jg
   have HI37:=aa hi37
   have hi37':(Tryz.prog.info? 50).map (·.size)=some L.toArray.size:=by rw[List.size_toArray];exact hi37
   have HI37a:=aa hi37'
   have H35:Hid (35=L.toArray.size):=by show _=_;rw[List.size_toArray,hf35]
   have HR1:Hid (wr.rangeAt b (off+k*35) L):=aa (bS hB hfr)
   have k0:(0:Int)<=(k:Int):=om
   have k1:(k:Int)<(n:Int):=om
   clear hL hone hi37 hi37' hfl hfr hx hf35
   go_upto_region 3 with (first|(refine wpList_load_mid rfl 50 (.tmp 10) rfl b (off+k*35) ?e1 L _ HR1.out Tryz.underlying50 rfl HI37.out ?_;(case e1=>rfl))|(refine wpList_store_row rfl 50 (.tmp 4) (.tmp 11) rfl wr.heap.size L.toArray ?e2 ?e3 50 zH (heap_alloc_new wr _) HI37a.out ?e4 HONE.out ?_;(case e2=>rfl);(case e3=>rfl);(case e4=>exact H35.out)))
   have hx2:ac ((wr.alloc (.cells zH 50)).setRow wr.heap.size L.toArray) wr.heap.size 50 L:=setRow_heap _ _ _ _ _ _ (heap_alloc_new wr _)
   have hS2:Below wr.heap.size wr ((wr.alloc (.cells zH 50)).setRow wr.heap.size L.toArray):=bf _ _ _
   generalize (wr.alloc (.cells zH 50)).setRow wr.heap.size L.toArray=w2 at *
   obtain⟨X4,hX4⟩:=zg wr.heap.size
   rw[<-hX4]at hx2 ⊢
   have hx3:ac (World.drew w2) X4 50 L:=hx2
   have hS3:Below wr.heap.size wr (World.drew w2):=hS2.drew
   have hcx:(World.drew w2).cell? ⟨X,0,none⟩=some (.slice (some ⟨b,off,none⟩) n c):=ag hS3 HCX.out
   clear hX4 hS2 hx2
   refine wpIn_wide.1 (?_:Code.wpIn Fence.wide n' Tryz.prog _ _ _ _)
   refine nt lH (fun W=>ac W X4 50 L/\W.cell? ⟨X,0,none⟩=some (.slice (some ⟨b,off,none⟩) n c)) 6 kr kr (fun ⟨_,_,hq⟩=>by obtain⟨⟨v,hv⟩,_⟩:=hq;cases hv) ?_
   change eC _ _ _ _ _ _ _ _ _ _ _ (World.drew w2)
   generalize World.drew w2=w3 at *
   have hS:=And.intro hx3 hcx
   simp only[Act.put]
   refine jB 0 [0,6] (.func (.yield lp) #[] #[]) rfl kr kr kr kr (fun _ _ _ h=>h) rfl (fun W h => ?y0) hS ?_
   case y0=>(go_simp;try rfl)
   try simp only[Act.put,zA]
   refine jB 1 [1,6] (.agg L.toArray) rfl kr kr kr kr (fun _ _ _ h=>h) rfl (fun W h => ?y1) hS ?_
   case y1=>exact aH 50 (.tmp 4) rfl X4 0 rfl L _ (ac.range h.1) Tryz.underlying50 rfl HI37.out
   try simp only[Act.put]
   refine jB 2 [2,4,5,6] (.slice (some ⟨b,off,none⟩) n c) rfl kr kr kr kr (fun _ _ _ h=>h) rfl (fun W h => ?y2) hS ?_
   case y2=>(have h2:=h.2;clear h;go_simp;try rfl)
   try simp only[Act.put]
   refine jB 3 [3,4,5,6] (.int .i64 k) rfl kr kr kr kr (fun _ _ _ h=>h) rfl (fun W h => ?y3) hS ?_
   case y3=>(go_simp;try rfl)
   try simp only[Act.put]
   have kc:(k:Int)<=(c:Int):=om
   refine kP 4 kr rfl (by decide) rfl ?_
   unfold Oper.wp
   go_simp
   refine kP 5 kr rfl (by decide) rfl ?_
   unfold Oper.wp
   go_simp
   have hsk:Sl 35 aq w3 (some ⟨b,off,none⟩) k (l.take k):=tv (H.out.below aq.keeps (hB.trans (hS3.mono hsz))) om
   refine(nr (some ⟨b,off,none⟩) k c (l.take k) w3 om (HI.out.below (hB.trans (hS3.mono hsz))) hsk (fun x hx=>HD.out x (List.mem_of_mem_take hx))).mono ?_
   rintro e w4 ⟨rfl,hS4⟩
   have hS5:=hS3.trans (hS4.mono hS3.size)
   refine⟨⟨hx3.below hS4 hx3.lt,ag hS4 hcx⟩,?_⟩
   try simp only[Act.put,zA]
   obtain⟨fn,tmps,assign,body,hy,hRd⟩:=HY.out (List.range k) k _ w4 (ut hlt) (HG.out _ _ _ HJ.out hS5)
   simp only[ii]at hy
   rw[<-HLL.out]at hy
   have HRd:=aa hRd
   clear hRd
   refine BH kr rfl rfl ?_
   unfold Oper.wpIn
   refine⟨fun _ _=>trivial,?_⟩
   go_simp
   refine⟨fun hf=>(by simp[Fence.wide]at hf),HRd.out.mono ?_⟩
   rintro e w5 (⟨rfl,hJ5,hk5⟩|⟨rfl,hX5⟩)
   ·have HJ5:=aa hJ5
    refine kP 7 kr rfl (by decide) rfl ?_
    unfold Oper.wp
    go_simp
    refine pN kr ?_
    have hcx4:=ag hS4 hcx
    go_wp2
    go_roundw
    case rel=>exact⟨k+1,om,by go_num,by rw[List.range_succ];exact HJ5.out,(hB.trans (hS5.mono hsz)).trans hk5.1,hk5.2 _ hcx4⟩
    case measure=>simp[intOf];omega
   ·have HX5:=aa hX5
    clear hX5
    refine kP 7 kr rfl (by decide) rfl ?_
    unfold Oper.wp
    go_simp
    refine pN kr ?_
    go_wp2
    refine bodyPost_ret (results_none rfl _ _ _) rfl ?_
    exact⟨⟨_,rfl⟩,.inr HX5.out⟩
  ·obtain rfl:k=n:=om
   go_wp2
   go_end0
   exact⟨⟨_,rfl⟩,.inl HJ.out⟩
end Go.Proofs.YtmflnpdmlfmcpaaGreatDoor.Dr
