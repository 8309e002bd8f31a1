/- Joined texts. -/
import Derived.Test.YtmflnpdmlfmcpaaGreatDoorJp24
import Derived.Test.YtmflnpdmlfmcpaaGreatDoorJp22
set_option maxRecDepth 100000
set_option maxHeartbeats 8000000
namespace Go.Proofs.YtmflnpdmlfmcpaaGreatDoor.Dr
open Go.RowKit
theorem BW : ∀(k N t:Nat),t<k->(be k N)[k-1-t]? = some (UInt8.ofNat (N/256 ^ t%256)):=by
 intro k
 induction k with
 | zero=>intro N t h;omega
 | succ k ih =>
  intro N t h
  by_cases ht:t=k
  ·subst ht
   rw[show t+1-1-t=0 by omega]
   rfl
  ·rw[show k+1-1-t=(k-1-t)+1 by omega]
   simp only[be,List.getElem?_cons_succ]
   exact ih N t om
theorem kW {w:World}{B n:Nat}{va:Option Addr}{vc:Nat}{xs:List Value}(h:w.ownsRow B 5 1 (.slice va (0+n) vc) (0+n) ([]++xs)):w.ownsRow B 5 1 (.slice va n vc) n xs:=by
 rwa [Nat.zero_add,List.nil_append]at h
def t7 : Value->Nat
 | .slice _ n _=>n
 | _=>0
theorem uJ (a:Option Addr)(n c:Nat)(l:List UInt8)(w:World)(hn:n<=1000000)(h:Sl 1 ai w a n l) :
  Calls Tryz.prog 148 #[.slice a n c] w (jZ w (gp l)):=by
 obtain⟨i0,hi0,hz0,hz1,hz2⟩:=eO
 obtain⟨f1,f2,f3,f4⟩:=bV h
 have F1:=aa f1
 have F3:=aa f3
 have F4:=aa f4
 have HL:=aa h.len
 obtain⟨P,hP⟩:=zg (gp l)
 rw[<-hP]
 have HP:=aa hP
 clear f1 f3 f4 h hP
 have HO:Hid ((w.alloc (.cells #[] 5)).ownsRow w.heap.size 5 1 (.slice (some ⟨w.heap.size,0,none⟩) 0 0) 0 []):=
  ⟨rfl,.inr ⟨w.heap.size,0,#[],rfl,Nat.le_refl _,ak _ rfl,Nat.le_refl _,by unfold maxLen;omega,rfl,rfl⟩⟩
 go_enter Tryz.func148,Tryz.ntmps148
 go_upto_region 2 with (first
  | (at_builtin;refine aD rfl (.tmp 6) (.tmp 7) 40 rfl w.heap.size 5 i0 (.int .u8 0) 1 1 Tryz.underlying40 hi0 hz0 hz1 hz2 rfl (by decide) (.slice (some ⟨w.heap.size,0,none⟩) 0 0) 0 [] rfl HO.out a n c (af l) rfl F1.out f2 (fun ad had j q hq=>ag ((Below.refl _ w).alloc (Nat.le_refl _) _) (F3.out ad had j q hq)) F4.out ?p3 ?p4 ?p5 ?_;rotate_right;intro va vc w1 hown1 hgrow1)
  | (at_builtin;refine aD rfl (.tmp 8) (.tmp 9) 40 rfl w.heap.size 5 i0 (.int .u8 0) 1 1 Tryz.underlying40 hi0 hz0 hz1 hz2 rfl (by decide) (.slice va n vc) n (af l) rfl ((kW hown1).alloc _) (some ⟨w1.heap.size,0,none⟩) 1 1 [.int .u8 128] rfl rfl ?q0 (eX _ _) ?q2 ?q3 ?q4 ?q5 ?_;rotate_right;intro vd vf w2 hown2 hgrow2))
 case p3=>unfold maxLen;omega
 case p4=>omega
 case p5=>simp
 case q0=>intro h;cases h
 case q2=>intro q hq;simp only[List.mem_singleton]at hq;subst hq;rfl
 case q3=>unfold maxLen;omega
 case q4=>omega
 case q5=>exact Nat.le_trans (Nat.le_trans (by simp) hgrow1.size) (by simp)
 have hB1:Below w.heap.size w w1:=((Below.refl _ w).alloc (Nat.le_refl _) _).grown hgrow1 (by simp) (bU HO.out)
 have hB2:Below w.heap.size w w2:=(hB1.alloc hB1.size _).grown hgrow2 (Nat.le_trans hB1.size (by simp)) (bU (kW hown1))
 have hown2':w2.ownsRow w.heap.size 5 1 (.slice vd (n+1) vf) (n+1) (af (l++[0x80])):=by
  simpa[af] using hown2
 clear hown1 hown2 hgrow1 hgrow2 hB1 HO F1 F3 F4 f2
 have HO2:=aa hown2'
 clear hown2'
 obtain⟨z,hz⟩:=zg (dO n)
 have hz63:z<=63:=by rw[hz];unfold dO;omega
 have hzm:(n+1+z)%64=56:=by rw[hz];unfold dO;omega
 have hzl:∀j,j<z->(n+1+j)%64≠56:=fun j hj=>by rw[hz]at hj;unfold dO at hj;omega
 have HZM:=aa hzm
 have HZL:=aa hzl
 have HZ:=aa hz
 clear hz hzm hzl
 go_loopw [3] (fun s3 wr=>∃(j:Nat) (A:Option Addr) (C m:Nat),j<=z/\m=n+1+j/\s3=.slice A m C/\wr.ownsRow w.heap.size 5 1 (.slice A m C) m (af (l++[0x80]++List.replicate j 0))/\Below w.heap.size w wr) (fun s3 _=>n+1+63-t7 s3)
 case atStart=>exact⟨0,vd,vf,n+1,Nat.zero_le _,rfl,rfl,by simpa using HO2.out,hB2⟩
 case round =>
  clear HO2 hB2
  obtain⟨j,A,C,m,hj,hm,rfl,hown,hB⟩:=hrel
  have hzr:=hB.size
  have HOWN:=aa hown
  have HM:=aa hm
  have hm6:m<=1000100:=om
  have hm0:(0:Int)<=(m:Int):=om
  clear hown
  by_cases hjz:j<z
  ·have h56:¬(m:Int)%64=56:=by have:=HZL.out j hjz;omega
   have h56b:((m:Int)%64 == 56)=false:=by simpa using h56
   have h56c:((m:Int)%64 != 56)=true:=by simpa using h56
   clear hm
   go_wp2_with (at_builtin;refine aD rfl (.tmp 15) (.tmp 16) 40 rfl w.heap.size 5 i0 (.int .u8 0) 1 1 Tryz.underlying40 hi0 hz0 hz1 hz2 rfl (by decide) (.slice A m C) m (af (l++[0x80]++List.replicate j 0)) rfl (HOWN.out.alloc _) (some ⟨wr.heap.size,0,none⟩) 1 1 [.int .u8 0] rfl rfl ?q0 (eX _ _) ?q2 ?q3 ?q4 ?q5 ?_;rotate_right;intro va vc w3 hown3 hgrow3)
   case q0=>intro h;cases h
   case q2=>intro q hq;simp only[List.mem_singleton]at hq;subst hq;rfl
   case q3=>unfold maxLen;omega
   case q4=>omega
   case q5=>simp;omega
   have hB3:=(hB.alloc hzr (.cells #[.int .u8 0] 5)).grown hgrow3 (Nat.le_trans hzr (by simp)) (bU HOWN.out)
   go_roundw
   case rel=>exact⟨j+1,va,vc,m+1,om,by rw[HM.out];omega,rfl,by rw[List.replicate_succ',<-List.append_assoc];simpa[af] using hown3,hB3⟩
   case measure=>(have:=HM.out;simp only[t7];omega)
  ·have hjz2:j=z:=om
   have h56:(m:Int)%64=56:=by have:=HZM.out;omega
   have h56b:((m:Int)%64 == 56)=true:=by simpa using h56
   have h56c:((m:Int)%64 != 56)=false:=by simpa using h56
   have HOZ:Hid (wr.ownsRow w.heap.size 5 1 (.slice A m C) m (af (l++[0x80]++List.replicate z 0))):=by rw[Hid,<-hjz2];exact HOWN.out
   have HMZ:Hid (m=n+1+z):=by rw[Hid,<-hjz2];exact HM.out
   have hn8:IntKind.u64.wrap (n:Int)=(n:Int):=by rw[IntKind.wrap_u64];omega
   have hn9:IntKind.u64.wrap ((n:Int)*8)=(n:Int)*8:=by rw[IntKind.wrap_u64];omega
   have hn10:(n:Int)*8%18446744073709551616=((n*8:Nat):Int):=om
   clear HOWN HM hm hjz hjz2 HZM HZL hj
   go_wp2_with fail
   clear h56 h56b h56c hn8 hn9 hn10
   obtain⟨wo,rfl⟩:∃wo:World,wo=wr:=⟨_,rfl⟩
   obtain⟨Bs,hBs⟩:=zg (l++[0x80]++List.replicate z 0)
   have HOB:Hid (wo.ownsRow w.heap.size 5 1 (.slice A m C) m (af Bs)):=by rw[hBs];exact HOZ.out
   have HPP:Hid (P=Bs++be 8 (n*8)):=by rw[Hid,HP.out,gp,HL.out,<-HZ.out,hBs];simp
   clear hBs HOZ HP
   go_loopw [3,5] (fun s3 s5 wr=>∃(t:Nat) (A:Option Addr) (C m':Nat),t<=8/\m'=m+(8-t)/\s5=.int .i64 ((t:Int)-1)/\s3=.slice A m' C/\wr.ownsRow w.heap.size 5 1 (.slice A m' C) m' (af (Bs++(be 8 (n*8)).take (8-t)))/\Below w.heap.size w wr) (fun _ s5 _=>(intOf s5+1).toNat)
   case atStart=>exact⟨8,A,C,m,Nat.le_refl _,om,rfl,rfl,by simpa using HOB.out,hB⟩
   case round =>
    clear HOB hB
    obtain⟨t,A,C,m',ht,hm',rfl,rfl,hown,hB⟩:=hrel
    have hzr:=hB.size
    have HOWN:=aa hown
    have HM:=aa hm'
    have hm6':m'<=1000200:=om
    clear hown
    cases t with
    | zero =>
     have HFIN:Hid (wr.ownsRow w.heap.size 5 1 (.slice A m' C) m' (af P)):=by
      rw[Hid,HPP.out]
      have h:=HOWN.out
      rwa [List.take_of_length_le (by rw[eN];omega)]at h
     have HPL:Hid (P.length=m'):=by
      have h:=HFIN.out.1
      have h2:P.length=m':=by simpa[af] using h
      exact h2
     clear hm' HOWN HM
     go_wp2
     go_ret
     exact⟨⟨A,C,(by rw[HPL.out];try rfl),by rw[HPL.out];exact HFIN.out⟩,hB⟩
    | succ u =>
     have e0:((u+1:Nat):Int)-1=(u:Int):=om
     rw[e0]
     obtain⟨bt,hbt⟩:=zg (UInt8.ofNat (n*8/256 ^ u%256))
     have hsn:=cp (be 8 (n*8)) (8-(u+1)) bt (by rw[hbt,show 8-(u+1)=8-1-u by omega];exact BW 8 (n*8) u om)
     have hv:(n:Int)*8/2 ^ (8*u)%256=(bt.toNat:Int):=by
      have h2:(2:Nat) ^ (8*u)=256 ^ u:=by rw[Nat.pow_mul]
      have h3:(2:Int) ^ (8*u)=((2 ^ (8*u):Nat):Int):=by simp
      rw[hbt,UInt8.toNat_ofNat',h3,h2]
      have h4:(n:Int)*8=((n*8:Nat):Int):=om
      rw[h4]
      have h5:n*8/256 ^ u%256%2 ^ 8=n*8/256 ^ u%256:=om
      rw[h5]
      first|rfl|simp
     have HSN:=aa hsn
     have k0:(0:Int)<=(u:Int):=om
     have w1:IntKind.i64.wrap (8*(u:Int))=8*(u:Int):=by rw[IntKind.wrap_i64];omega
     clear hm' hsn hbt e0
     go_wp2_with (at_builtin;refine aD rfl (.tmp 26) (.tmp 32) 40 rfl w.heap.size 5 i0 (.int .u8 0) 1 1 Tryz.underlying40 hi0 hz0 hz1 hz2 rfl (by decide) (.slice A m' C) m' (af (Bs++(be 8 (n*8)).take (8-(u+1)))) rfl (HOWN.out.alloc _) (some ⟨wr.heap.size,0,none⟩) 1 1 [.int .u8 bt.toNat] rfl rfl ?q0 (eX _ _) ?q2 ?q3 ?q4 ?q5 ?_;rotate_right;intro va vc w3 hown3 hgrow3)
     case q0=>intro h;cases h
     case q2=>intro q hq;simp only[List.mem_singleton]at hq;subst hq;rfl
     case q3=>unfold maxLen;omega
     case q4=>omega
     case q5=>(simp;try omega)
     have hB3:=(hB.alloc hzr (.cells #[.int .u8 bt.toNat] 5)).grown hgrow3 (Nat.le_trans hzr (by simp)) (bU HOWN.out)
     go_roundw
     case rel =>
      refine⟨u,va,vc,m'+1,om,by rw[HM.out];omega,by first|rfl|go_num,rfl,?_,hB3⟩
      rw[show 8-u=8-(u+1)+1 by omega,HSN.out,<-List.append_assoc]
      simpa[af] using hown3
     case measure=>(simp[intOf];try omega)
theorem yZ (s:S8)(k:Nat)(h:k<32):(dP s)[k]? = some (UInt8.ofNat (((dv s).getD (k/4) 0).toNat/256 ^ (3-k%4)%256)):=by
 match k,h with
 | 0,_=>rfl
 | 1,_=>rfl
 | 2,_=>rfl
 | 3,_=>rfl
 | 4,_=>rfl
 | 5,_=>rfl
 | 6,_=>rfl
 | 7,_=>rfl
 | 8,_=>rfl
 | 9,_=>rfl
 | 10,_=>rfl
 | 11,_=>rfl
 | 12,_=>rfl
 | 13,_=>rfl
 | 14,_=>rfl
 | 15,_=>rfl
 | 16,_=>rfl
 | 17,_=>rfl
 | 18,_=>rfl
 | 19,_=>rfl
 | 20,_=>rfl
 | 21,_=>rfl
 | 22,_=>rfl
 | 23,_=>rfl
 | 24,_=>rfl
 | 25,_=>rfl
 | 26,_=>rfl
 | 27,_=>rfl
 | 28,_=>rfl
 | 29,_=>rfl
 | 30,_=>rfl
 | 31,_=>rfl
 | k+32,h=>exact absurd h om
def PC (g:Nat)(P:List UInt8)(W:World):Prop:=∀i x,P[i]? = some x->W.cell? ⟨g,i,none⟩=some (.int .u8 x.toNat)
theorem PC.below {g:Nat}{P:List UInt8}{W W':World}(h:PC g P W)(hb:Below W.heap.size W W'):PC g P W':=fun i x hx=>ag hb (h i x hx)
theorem PC.row {g X:Nat}{P:List UInt8}{W:World}(h:PC g P W)(hne:g≠X)(D:Array Value):PC g P (W.setRow X D):=fun i x hx=>by rw[cell_setRow_other _ _ _ _ hne];exact h i x hx
structure fZ (w:World)(S0 R0 g:Nat)(P:List UInt8)(st:S8)(W:World):Prop where
 st:ac W S0 149 (db st)
 res:ac W R0 48 (af (List.replicate 32 0))
 pc:PC g P W
 below:Below w.heap.size w W
theorem fZ.keep {w:World}{S0 R0 g:Nat}{P:List UInt8}{st:S8}{W W':World}(h:fZ w S0 R0 g P st W)(hb:Below W.heap.size W W'):fZ w S0 R0 g P st W':=
 ⟨h.st.below hb h.st.lt,h.res.below hb h.res.lt,h.pc.below hb,h.below.trans (hb.mono h.below.size)⟩
theorem fZ.set {w:World}{S0 R0 g:Nat}{P:List UInt8}{st st':S8}{W:World}(h:fZ w S0 R0 g P st W)(h1:R0≠S0)(h2:g≠S0)(h3:w.heap.size<=S0):fZ w S0 R0 g P st' (W.setRow S0 (db st').toArray):=
 ⟨setRow_heap _ _ _ _ _ _ h.st,(setRow_other _ _ _ _ h1).trans h.res,h.pc.row h2 _,below_setRow h.below h3 _⟩
theorem fZ.cell {w:World}{S0 R0 g D0:Nat}{P:List UInt8}{st:S8}{W:World}(h:fZ w S0 R0 g P st W)(h1:S0≠D0)(h2:R0≠D0)(h3:w.heap.size<=D0)(h4:g≠D0)(k:Nat)(v:Value):fZ w S0 R0 g P st (W.setCell ⟨D0,k,none⟩ v):=
 ⟨h.st.setCell h1 _,h.res.setCell h2 _,fun i x hx=>by
  have hb:(W.setCell ⟨D0,k,none⟩ v).heap[g]? = W.heap[g]? := Below.heap_setCell _ _ _ g h4
  rw[World.cell?_of_block hb]
  exact h.pc i x hx,h.below.setCell h3 _⟩
theorem qy (l:List UInt8):(af l).length=l.length:=by simp[af]
theorem xe (l:List UInt8)(h:l.length=32):∃E:Array Value,E=(af l).toArray/\(Tryz.prog.info? 48).map (·.size)=some E.size/\E.all (·.oneCell')=true/\E.size=32:=by
 obtain⟨D,h1,_,h2,h3,h4⟩:=ez l h
 exact⟨D,h1,h2,h3,h4⟩
theorem tH (s:S8):(Tryz.prog.info? 149).map (·.size)=some (db s).length:=by
 show _=some 8
 kernel_rfl
theorem AV (s:S8):(db s).toArray.all (·.oneCell')=true:=by simp[db,Value.oneCell']
theorem uK {o:Oper}{act:Act}{W:World}(p q r:Operand)(ho:o.op=.slice 40 p (some q) (some r) none)(g n c lo hi:Nat)(hp:act.eval p=.slice (some ⟨g,0,none⟩) n c)(hq:act.eval q=.int .i64 lo)(hr:act.eval r=.int .i64 hi)(h1:lo<=hi)(h2:hi<=c)(h3:lo≠c) :
  (execOp act.eval o).run Tryz.prog W=.ok (.value (.slice (some ⟨g,lo,none⟩) (hi-lo) (c-lo))) W:=by
 have k1:(lo:Int)<=(hi:Int):=om
 have k2:(hi:Int)<=(c:Int):=om
 have k3:¬c=lo:=fun h=>h3 h.symm
 unfold execOp
 simp only[ho,hp,hq,hr,Option.map_some,Option.map_none]
 go_simp
theorem xf {o:Oper}{act:Act}{W:World}(p:Operand)(ho:o.op=.binOp .add 3 p (.const (.int .i64 64)) 3)(k j:Nat)(hp:act.eval p=.int .i64 k)(hj:j=k+64)(hk:k<=100000000):(execOp act.eval o).run Tryz.prog W=.ok (.value (.int .i64 j)) W:=by
 have h0:act.eval (.const (.int .i64 64))=.int .i64 64:=rfl
 have e:IntKind.i64.wrap ((k:Int)+64)=(j:Int):=by rw[hj,IntKind.wrap_i64];omega
 unfold execOp
 simp only[ho,hp,h0]
 clear hj
 go_simp
section
variable {P : Program} {md : Region.Mode} {ops : Array Oper} {S : World -> Prop} {z : Nat} {Q : Exit -> Act -> World -> Prop}
theorem AW (i:Nat){k:Nat}{l:Array Bool}{a:Act}{w:World}(h0:i<ops.size)(hr:Region.ready md ops l=[i])(hg:ops[i].guard=none)
  (h:ops[i].wp P a w (fun a' w'=>(i=z\/S w')/\bT P md ops Q S z k (l.setIfInBounds i true) a' w') Q):bT P md ops Q S z (k+1) l a w:=
 aC i hr (Array.getElem?_eq_getElem h0) hg h
end
theorem xg : ∃D:Array Value,D=(af (List.replicate 32 0)).toArray/\(Tryz.prog.info? 48).map (·.size)=some D.size/\D.all (·.oneCell')=true/\D.size=32:=⟨_,rfl,kr,kr,kr⟩
theorem tI (a:Option Addr)(n c:Nat)(l:List UInt8)(w:World)(hn:n<=1000000)(h:Sl 1 ai w a n l) :
  Calls Tryz.prog 134 #[.slice a n c] w fun e w'=>e=.returned (br (cL l))/\Below w.heap.size w w':=by
 have H:=aa h
 have HL:=aa h.len
 obtain⟨D,hD,hi,ho,hs⟩:=rJ bI
 have HD:=aa hD
 have HI:=aa hi
 have HO:=aa ho
 have HS:=aa hs
 obtain⟨B,hB⟩:=zg (dh n)
 obtain⟨P,hP⟩:=zg (gp l)
 have hPl:P.length=64*B:=by rw[hP,uh,h.len,hB]
 have hB1:1<=B:=by rw[hB];unfold dh;omega
 have hB2:B<=100000:=by rw[hB];unfold dh;omega
 have HRES:Hid (cL l=dP (dS B bI P)):=by rw[Hid,cL,<-hP,h.len,<-hB]
 obtain⟨res,hres⟩:=zg (br (cL l))
 rw[<-hres]
 have HR:=aa hres
 have HP:=aa hP
 have HPL:=aa hPl
 clear hD hi ho hs hB hP hPl hres h
 go_enter Tryz.func134,Tryz.ntmps134
 go_upto_region 1 with (fail)
 obtain⟨R0,hR0⟩:=zg w.heap.size
 have hr0:ac (w.alloc (.cells zI 48)) R0 48 (af (List.replicate 32 0)):=ak _ hR0
 have hBa:=(Below.refl _ w).alloc (Nat.le_refl _) (.cells zI 48)
 have hRw:w.heap.size<=R0:=om
 rw[<-hR0]
 generalize w.alloc (.cells zI 48)=w0 at *
 clear hR0
 have HR0:=aa hr0
 have hl0:=hr0.lt
 clear hr0
 go_upto_region 2 with (first
  | (refine eR rfl 149 _ rfl D (by rw[HD.out];kernel_rfl) ?_;simp only[Act.put,zA])
  | (refine wpList_store_row rfl 149 (.tmp 3) (.tmp 8) rfl w0.heap.size D ?e1 ?e2 149 zJ (heap_alloc_new w0 _) HI.out ?e3 HO.out ?_;(case e1=>rfl);(case e2=>rfl);(case e3=>exact HS.out.symm)))
 obtain⟨S0,hS0⟩:=zg w0.heap.size
 have hbn:Below w0.heap.size w0 ((w0.alloc (.cells zJ 149)).setRow S0 D):=by rw[hS0];exact bf w0 _ D
 have hk0:((w0.alloc (.cells zJ 149)).setRow S0 D).heap[S0]? = some (.cells D 149 (0,0)):=by rw[hS0];exact setRow_heap _ _ _ _ _ _ (heap_alloc_new w0 _)
 have hS0w:w.heap.size<=S0:=by have:=hBa.size;omega
 have hRS:R0≠S0:=om
 rw[<-hS0]
 generalize (w0.alloc (.cells zJ 149)).setRow S0 D=w1 at *
 have hs1:ac w1 S0 149 (db bI):=by rw[ac,hk0,HD.out]
 have hr1:=HR0.out.below hbn hl0
 have hb1:=hBa.trans (hbn.mono hBa.size)
 have HS1:=aa hs1
 have HR1:=aa hr1
 have HB1:=aa hb1
 clear hbn hk0 hS0 hs1 hr1 hb1 HR0 hl0 hBa HD HI HO HS
 have HC:=aa (uJ a n c l w1 hn (H.out.below ai.keeps HB1.out))
 rw[<-HP.out]at HC
 go_wp2_with fail
 refine HC.out.mono ?_
 rintro e w2 ⟨⟨va,vc,rfl,hown⟩,hS2⟩
 obtain⟨g,rfl,hgw,hpc,hPv⟩:∃g,va=some ⟨g,0,none⟩/\w1.heap.size<=g/\PC g P w2/\P.length<=vc:=by
  have hsl:=(fE hown rfl)
  rcases hown.2 with ⟨_,h0⟩|⟨g,cap,cur,hv,hb,hh,h2,h3,h4,h5⟩
  ·have:=HPL.out;omega
  ·simp only[Value.slice.injEq,true_and]at hv
   obtain⟨rfl,rfl⟩:=hv
   refine⟨g,rfl,hb,fun i x hx => ?_,h2⟩
   have hu:(af P)[i]? = some (.int .u8 x.toNat):=cd hx
   rw[<-h5,List.getElem?_take]at hu
   split at hu
   ·simpa[World.cell?,hh] using hu
   ·cases hu
 have hI:fZ w S0 R0 g P (dS 0 bI P) w2:=⟨HS1.out.below hS2 HS1.out.lt,HR1.out.below hS2 HR1.out.lt,hpc,HB1.out.trans (hS2.mono HB1.out.size)⟩
 have hgS:g≠S0:=by have:=HS1.out.lt;omega
 have HII:=aa hI
 rw[HPL.out]at hPv ⊢
 clear hown hS2 hgw hpc hI HS1 HR1 HB1 HC
 go_wp2_with fail
 go_loopw [5] (fun s5 wr=>∃k j:Nat,k<=B/\j=64*k/\s5=.int .i64 j/\fZ w S0 R0 g P (dS k bI P) wr) (fun s5 _=>64*B-(intOf s5).toNat)
 case atStart=>exact⟨0,0,Nat.zero_le _,rfl,rfl,HII.out⟩
 case round =>
  clear HII
  obtain⟨k,j,hk,hj,rfl,hI⟩:=hrel
  by_cases hlt:k<B
  ·have j1:(j:Int)<((64*B:Nat):Int):=om
   have j2:(j:Int)<64*(B:Int):=om
   have hS:=lE k bI P
   obtain⟨st,hst⟩:=zg (dS k bI P)
   rw[<-hst]at hS hI
   have HSN:=aa hS
   clear hst hS
   go_upto_region 6 with (fail)
   refine bZ (fZ w S0 R0 g P st) 7 kr ?_
   change bT _ _ _ _ _ _ _ _ _ (World.drew wr)
   have hI':fZ w S0 R0 g P st (World.drew wr):=hI.keep ((Below.refl _ wr).drew)
   clear hI
   have hI:=hI'
   clear hI'
   generalize World.drew wr=v0 at *
   refine eL 0 (.agg (db st).toArray) rfl (fun W hW=>aH 149 (.tmp 3) kr S0 0 kr (db st) _ (ac.range hW.st) Tryz.underlying149 rfl (tH st)) hI ?_
   simp only[Act.put,zA]
   refine fp 1 (.slice (some ⟨g,0,none⟩) (64*B) vc) rfl hI ?_
   simp only[Act.put]
   refine fp 2 (.int .i64 j) rfl hI ?_
   simp only[Act.put]
   refine fp 3 (.int .i64 j) rfl hI ?_
   simp only[Act.put]
   refine eL 4 (.int .i64 ((j+64:Nat):Int)) rfl (fun W hW=>xf (.tmp 20) kr j (j+64) kr rfl om) hI ?_
   simp only[Act.put]
   refine eL 5 (.slice (some ⟨g,j,none⟩) (j+64-j) (vc-j)) rfl (fun W hW=>uK (.tmp 18) (.tmp 19) (.tmp 21) kr g (64*B) vc j (j+64) kr kr kr om om om) hI ?_
   simp only[Act.put]
   refine aC 6 kr rfl rfl ?_
   refine im 149 #[.agg (db st).toArray,.slice (some ⟨g,j,none⟩) (j+64-j) (vc-j)] kr ?_
   have HC:=wZ g j (j+64-j) (vc-j) st (P.drop (64*k)) v0 om om (by rw[List.length_drop,HPL.out];omega) (fun i x hi hx=>by
    rw[List.getElem?_drop,<-hj]at hx
    exact hI.pc _ _ hx)
   rw[<-HSN.out]at HC
   refine HC.mono ?_
   rintro e v1 ⟨rfl,hS⟩
   have hI':=hI.keep hS
   clear hI hS HC
   have hI:=hI'
   clear hI'
   refine⟨_,rfl,.inr hI,?_⟩
   try simp only[Act.put,zP]
   obtain⟨st',hst'⟩:∃q,q=dS (k+1) bI P:=⟨_,rfl⟩
   rw[<-hst']
   have HST:=aa hst'
   clear hst'
   refine AW 7 (by decide) kr kr ?_
   refine wp_store_row 149 (.tmp 3) (.tmp 23) kr S0 (db st').toArray kr kr 149 _ hI.st (tH st') (by rfl) (AV st') ?_
   have hI2:fZ w S0 R0 g P st' (v1.setRow S0 (db st').toArray):=hI.set hRS hgS hS0w
   have HI2:=aa hI2
   clear hI hI2
   refine⟨.inl rfl,?_⟩
   try simp only[Act.put,zP]
   refine cV kr ?_
   have jb:(j:Int)<=6400000:=om
   have jz:(0:Int)<=(j:Int):=om
   have HJ:=aa hj
   clear hj j1 j2
   go_wp2
   go_roundw
   case rel=>exact⟨k+1,j+64,om,by rw[HJ.out];omega,by first|rfl|go_num,by rw[<-HST.out];exact HI2.out⟩
   case measure=>(have:=HJ.out;simp[intOf];omega)
  ·have hkB:k=B:=om
   have j1:¬(j:Int)<64*(B:Int):=om
   obtain⟨st,hst⟩:=zg (dS k bI P)
   rw[<-hst]at hI
   have HSH:Hid (cL l=dP st):=by rw[Hid,HRES.out,hst,hkB]
   have HII:=aa hI
   clear hst hkB hI hj hlt
   obtain⟨D2,hD2,hi2,ho2,hs2⟩:=xg
   have HD2:=aa hD2
   have HI2:=aa hi2
   have HO2:=aa ho2
   have HS2:=aa hs2
   clear hD2 hi2 ho2 hs2
   go_upto_region 8 with (first
    | (refine eR rfl 48 _ rfl D2 (by rw[HD2.out];kernel_rfl) ?_;simp only[Act.put,zA])
    | (refine wpList_store_row rfl 48 (.tmp 6) (.tmp 24) rfl wr.heap.size D2 ?e1 ?e2 48 zI (heap_alloc_new wr _) HI2.out ?e3 HO2.out ?_;(case e1=>rfl);(case e2=>rfl);(case e3=>exact HS2.out.symm)))
   obtain⟨D0,hD0⟩:=zg wr.heap.size
   have hbn:Below wr.heap.size wr ((wr.alloc (.cells zI 48)).setRow D0 D2):=by rw[hD0];exact bf wr _ D2
   have hk0:((wr.alloc (.cells zI 48)).setRow D0 D2).heap[D0]? = some (.cells D2 48 (0,0)):=by rw[hD0];exact setRow_heap _ _ _ _ _ _ (heap_alloc_new wr _)
   have hDS:S0≠D0:=by have:=HII.out.st.lt;omega
   have hDR:R0≠D0:=by have:=HII.out.res.lt;omega
   have hDw:w.heap.size<=D0:=by have:=HII.out.below.size;omega
   have hgl:g<wr.heap.size:=by
    obtain⟨x,hx⟩:∃x,P[0]? = some x:=⟨_,List.getElem?_eq_getElem (by rw[HPL.out];omega)⟩
    exact World.block_lt_of_cell? _ _ (HII.out.pc 0 x hx)
   have HGD:Hid (g≠D0):=by rw[hD0];exact Nat.ne_of_lt hgl
   rw[<-hD0]
   generalize (wr.alloc (.cells zI 48)).setRow D0 D2=w4 at *
   have hI4:=HII.out.keep hbn
   have hr4:ac w4 D0 48 (af ((dP st).take 0++List.replicate (32-0) 0)):=by rw[ac,hk0,HD2.out];rfl
   clear hbn hk0 hD0 HII HD2 HI2 HO2 HS2 j1 hgl
   go_wp2_with fail
   obtain⟨wo,hwo⟩:∃wo:World,wo=w4:=⟨_,rfl⟩
   clear hwo
   go_loopw [7] (fun s7 wr=>∃k:Nat,k<=32/\s7=.int .i64 k/\ac wr D0 48 (af ((dP st).take k++List.replicate (32-k) 0))/\fZ w S0 R0 g P st wr) (fun s7 _=>32-(intOf s7).toNat)
   case atStart=>exact⟨0,Nat.zero_le _,rfl,hr4,hI4⟩
   case round =>
    clear hr4 hI4
    obtain⟨k,hk,rfl,hrow,hI⟩:=hrel
    by_cases hlt:k<32
    ·obtain⟨q,hq⟩:=zg (k/4)
     obtain⟨x,hx⟩:=zg ((dv st).getD q 0)
     obtain⟨r,hr⟩:=zg (k%4)
     obtain⟨bt,hbt⟩:=zg (UInt8.ofNat (x.toNat/256 ^ (3-r)%256))
     have hq8:q<8:=om
     have cS:wr.cell? ⟨S0,q,none⟩=some (.int .u32 (wv x)):=by rw[hx];exact(ac.cell hI.st q).trans (ph st hq8)
     have hot:(dP st)[k]? = some bt:=by rw[hbt,hx,hq,hr];exact yZ st k hlt
     have cD:wr.cell? ⟨D0,k,none⟩=some (.int .u8 0):=by
      refine(ac.cell hrow k).trans ?_
      have h1:(dP st).length=32:=ij st
      have h2:((dP st).take k).length=k:=by rw[List.length_take,h1];omega
      have h3:((dP st).take k++List.replicate (32-k) 0)[k]? = some 0:=by
       rw[List.getElem?_append_right (by rw[h2];exact Nat.le_refl _),h2,Nat.sub_self,List.getElem?_replicate,if_pos om]
      exact cd h3
     have hfz:wr.frozen? ⟨D0,k,none⟩=false:=frozen_of_row _ _ _ _ _ hrow
     have hnew:ac (wr.setCell ⟨D0,k,none⟩ (.int .u8 bt.toNat)) D0 48 (af ((dP st).take (k+1)++List.replicate (32-(k+1)) 0)):=by
      have h0:=ax hrow k (.int .u8 bt.toNat)
      unfold ac
      rw[h0,zA]
      congr 2
      have h1:(dP st).length=32:=ij st
      have h2:((dP st).take k).length=k:=by rw[List.length_take,h1];omega
      have h3:(af ((dP st).take k++List.replicate (32-k) 0)).set k (.int .u8 bt.toNat)=af (((dP st).take k++List.replicate (32-k) 0).set k bt):=by simp[af,List.map_set]
      rw[h3,List.set_append_right _ _ (by rw[h2];exact Nat.le_refl _),h2,Nat.sub_self,cp _ k bt hot,show 32-k=(32-(k+1))+1 by omega,List.replicate_succ,zC,List.append_assoc]
      rfl
     have hIn:fZ w S0 R0 g P st (wr.setCell ⟨D0,k,none⟩ (.int .u8 bt.toNat)):=hI.cell hDS hDR hDw HGD.out _ _
     have HNEW:=aa hnew
     have HIN:=aa hIn
     have kq:(k:Int)/4=(q:Int):=om
     have kq2:(k:Int).tdiv 4=(q:Int):=by rw[Int.tdiv_eq_ediv_of_nonneg om];exact kq
     have kr:(k:Int)%4=(r:Int):=om
     have q8:(q:Int)<8:=om
     have q0:(0:Int)<=(q:Int):=om
     have k32:(k:Int)<32:=om
     have k0:(0:Int)<=(k:Int):=om
     have hbv:(bt.toNat:Int)=wv x/((256 ^ (3-r):Nat):Int)%256:=by
      rw[hbt,UInt8.toNat_ofNat']
      unfold wv
      have h5:x.toNat/256 ^ (3-r)%256%2 ^ 8=x.toNat/256 ^ (3-r)%256:=om
      rw[h5]
      first|rfl|simp
     have hr4:r=0\/r=1\/r=2\/r=3:=om
     clear hq hx hr hbt hot hnew hIn hrow hI hq8
     rcases hr4 with rfl|rfl|rfl|rfl
     ·have hv:wv x/16777216%256=(bt.toNat:Int):=by rw[hbv];rfl
      clear hbv
      go_wp2
      go_roundw
      case rel=>exact⟨k+1,om,by go_num,HNEW.out,HIN.out⟩
      case measure=>simp[intOf];omega
     ·have hv:wv x/65536%256=(bt.toNat:Int):=by rw[hbv];rfl
      clear hbv
      go_wp2
      go_roundw
      case rel=>exact⟨k+1,om,by go_num,HNEW.out,HIN.out⟩
      case measure=>simp[intOf];omega
     ·have hv:wv x/256%256=(bt.toNat:Int):=by rw[hbv];rfl
      clear hbv
      go_wp2
      go_roundw
      case rel=>exact⟨k+1,om,by go_num,HNEW.out,HIN.out⟩
      case measure=>simp[intOf];omega
     ·have hv:wv x%256=(bt.toNat:Int):=by rw[hbv];simp
      clear hbv
      go_wp2
      go_roundw
      case rel=>exact⟨k+1,om,by go_num,HNEW.out,HIN.out⟩
      case measure=>simp[intOf];omega
    ·have hk32:k=32:=om
     have kge:¬(k:Int)<32:=om
     have HF:Hid (ac wr D0 48 (af (dP st))):=by
      rw[hk32]at hrow
      have h1:(dP st).length=32:=ij st
      rw[List.take_of_length_le om,Nat.sub_self,List.replicate_zero,List.append_nil]at hrow
      exact hrow
     have HII:=aa hI
     have HN:Hid (br (cL l)=.agg (af (dP st)).toArray):=by rw[Hid,HSH.out];rfl
     obtain⟨E,hE,hEi,hEo,hEs⟩:=xe (dP st) (ij st)
     have HE:=aa hE
     have HEI:=aa hEi
     have HEO:=aa hEo
     have HES:=aa hEs
     clear hrow hI hk hlt hk32 hE hEi hEo hEs
     go_wp2_with (first
      | (refine wpList_load_mid rfl 48 (.tmp 6) rfl D0 0 ?e0 (af (dP st)) _ (ac.range HF.out) Tryz.underlying48 rfl (by rw[qy,ij];exact ey) ?_;(case e0=>rfl);rw[<-HE.out])
      | (refine wpList_store_row rfl 48 (.tmp 2) (.tmp 41) rfl R0 E ?e1 ?e2 48 _ HII.out.res HEI.out ?e3 HEO.out ?_;(case e1=>rfl);(case e2=>rfl);(case e3=>(rw[HES.out];rfl))))
     refine bodyPost_ret (results_cell_row rfl _ _ R0 48 E (0,0) _ rfl (setRow_heap _ _ _ _ _ _ HII.out.res) Tryz.underlying48 rfl HEI.out) rfl ?_
     exact⟨by rw[HR.out,HN.out,<-HE.out],below_setRow HII.out.below hRw _⟩
theorem uL (s:ByteArray)(a:Option Addr)(n c:Nat)(l:List UInt8)(w:World)(hs:s.size<=1000)(hn:n<=900000)(h:Sl 1 ai w a n l) :
  Calls Tryz.prog 109 #[.string s,.slice a n c] w fun e w'=>e=.returned (br (ik s.data.toList l))/\Below w.heap.size w w':=by
 have H:=aa h
 clear h
 go_enter Tryz.func109,Tryz.ntmps109
 go_upto_region 1 with (fail)
 obtain⟨D0,hD0⟩:=zg w.heap.size
 obtain⟨w1,hw1⟩:=zg (w.alloc (.cells zI 48))
 rw[<-hw1,<-hD0]
 have hd1:ac w1 D0 48 (af (List.replicate 32 0)):=by rw[hw1,hD0];exact ak _ rfl
 have hB1:Below w.heap.size w w1:=by rw[hw1];exact(Below.refl _ w).alloc (Nat.le_refl _) _
 obtain⟨w2,c2,hcv,hB2,hs2,hc2⟩:=np s w1
 have HD1:=aa hd1
 have HD0:=aa hD0
 have HS2:=aa hs2
 have hz1:=hB1.size
 clear hw1 hD0 hd1 hs2
 go_wp2_with fail
 have hb2:=hB1.trans (hB2.mono hz1)
 refine(tI _ s.size c2 s.data.toList w2 om HS2.out).mono ?_
 obtain⟨D1,hD1,hdv1,hi1,ho1,hs1⟩:=ez (cL s.data.toList) (fv _)
 rw[hdv1]
 rintro e w3 ⟨rfl,hB3⟩
 have hb3:=hb2.trans (hB3.mono hb2.size)
 have hd3:ac w3 D0 48 (af (List.replicate 32 0)):=(HD1.out.below hB2 HD1.out.lt).below hB3 (by have:=hB2.size;have:=HD1.out.lt;omega)
 have HD3:=aa hd3
 have HI1:=aa hi1
 have HO1:=aa ho1
 have HS1:=aa hs1
 have HE1:=aa hD1
 clear hcv hB2 hB3 hb2 hB1 hz1 HD1 HS2 hd3 hdv1 hi1 ho1 hs1 hD1
 go_upto_region 2 with (refine wpList_store_row rfl 48 (.tmp 5) (.tmp 8) rfl w3.heap.size D1 ?e1 ?e2 48 zI (heap_alloc_new w3 _) HI1.out ?e3 HO1.out ?_;(case e1=>rfl);(case e2=>rfl);(case e3=>exact HS1.out.symm))
 obtain⟨T,hT⟩:=zg w3.heap.size
 obtain⟨w4,hw4⟩:=zg ((w3.alloc (.cells zI 48)).setRow w3.heap.size D1)
 rw[<-hw4,<-hT]
 have hS4:Below w3.heap.size w3 w4:=by rw[hw4];exact bf _ _ _
 have hr4:ac w4 T 48 (af (cL s.data.toList)):=by rw[hw4,hT];unfold ac;rw[<-HE1.out];exact setRow_heap _ _ _ _ _ _ (heap_alloc_new w3 _)
 have hb4:=hb3.trans (hS4.mono hb3.size)
 have HD4:=aa (HD3.out.below hS4 HD3.out.lt)
 have HR4:=aa hr4
 have hz4:=hb4.size
 clear hw4 hS4 hr4 hT hb3 HD3 HI1 HO1 HS1 HE1
 obtain⟨i0,hi0,hz0,hz1,hz2⟩:=eO
 have hst:Sl 1 ai w4 (some ⟨T,0,none⟩) 32 (cL s.data.toList):=fs _ _ (fv _) HR4.out
 obtain⟨f1,f2,f3,f4⟩:=bV hst
 obtain⟨g1,g2,g3,g4⟩:=bV (H.out.below ai.keeps hb4)
 have F1:=aa f1
 have F3:=aa f3
 have F4:=aa f4
 have G1:=aa g1
 have G3:=aa g3
 have G4:=aa g4
 have HO:Hid ((w4.alloc (.cells #[] 5)).ownsRow w4.heap.size 5 1 (.slice (some ⟨w4.heap.size,0,none⟩) 0 0) 0 []):=
  ⟨rfl,.inr ⟨w4.heap.size,0,#[],rfl,Nat.le_refl _,ak _ rfl,Nat.le_refl _,by unfold maxLen;omega,rfl,rfl⟩⟩
 clear f1 f3 f4 g1 g3 g4 hst f2
 go_wp2_with (first
  | (at_builtin;refine aD rfl (.tmp 9) (.tmp 10) 40 rfl w4.heap.size 5 i0 (.int .u8 0) 1 1 Tryz.underlying40 hi0 hz0 hz1 hz2 rfl (by decide) (.slice (some ⟨w4.heap.size,0,none⟩) 0 0) 0 [] rfl HO.out (some ⟨T,0,none⟩) 32 32 (af (cL s.data.toList)) rfl F1.out (fun h=>by cases h) (fun ad had j q hq=>ag ((Below.refl _ w4).alloc (Nat.le_refl _) _) (F3.out ad had j q hq)) F4.out ?p3 ?p4 ?p5 ?_;rotate_right;intro va vc w5 hown5 hgrow5)
  | (at_builtin;refine aD rfl (.tmp 11) (.tmp 12) 40 rfl w4.heap.size 5 i0 (.int .u8 0) 1 1 Tryz.underlying40 hi0 hz0 hz1 hz2 rfl (by decide) (.slice va 32 vc) 32 (af (cL s.data.toList)) rfl (kW hown5) a n c (af l) rfl G1.out g2 (fun ad had j q hq=>ag (((Below.refl _ w4).alloc (Nat.le_refl _) (.cells #[] 5)).grown hgrow5 (by simp) (bU HO.out)) (G3.out ad had j q hq)) G4.out ?q3 ?q4 ?q5 ?_;rotate_right;intro vd vf w6 hown6 hgrow6))
 case p3=>unfold maxLen;omega
 case p4=>omega
 case p5=>simp
 case q3=>unfold maxLen;omega
 case q4=>omega
 case q5=>exact Nat.le_trans (by simp) hgrow5.size
 have hB5:Below w4.heap.size w4 w5:=((Below.refl _ w4).alloc (Nat.le_refl _) (.cells #[] 5)).grown hgrow5 (by simp) (bU HO.out)
 have hB6:Below w4.heap.size w4 w6:=hB5.grown hgrow6 hB5.size (bU (kW hown5))
 have hb6:=hb4.trans (hB6.mono hz4)
 rw[eo]at hown6
 obtain⟨hvc,hsv⟩:=fE hown6 (by rw[List.length_append,fv,H.out.len])
 have HD6:=aa (HD4.out.below hB6 HD4.out.lt)
 have HSV:=aa hsv
 obtain⟨D2,hD2,hdv2,hi2,ho2,hs2⟩:=ez (ik s.data.toList l) (kL _ _)
 have HC:=aa (tI vd (32+n) vf (cL s.data.toList++l) w6 om HSV.out)
 rw[show br (cL (cL s.data.toList++l))=.agg D2 from hdv2]at HC
 have HV2:=aa hdv2
 have HI2:=aa hi2
 have HO2:=aa ho2
 have HS2:=aa hs2
 have HD2:=aa hD2
 clear hown5 hown6 hgrow5 hgrow6 hB5 hB6 HO F1 F3 F4 G1 G3 G4 g2 hsv hdv2 hi2 ho2 hs2 hD2 hb4 HD4 HR4
 refine HC.out.mono ?_
 rintro e w7 ⟨rfl,hS7⟩
 have hb7:=hb6.trans (hS7.mono hb6.size)
 have HD7:=aa (HD6.out.below hS7 HD6.out.lt)
 clear hS7 HC HD6 hb6
 go_wp2_with (refine wpList_store_row rfl 48 (.tmp 4) (.tmp 14) rfl D0 D2 ?e1 ?e2 48 _ HD7.out HI2.out ?e3 HO2.out ?_;(case e1=>rfl);(case e2=>rfl);(case e3=>(rw[HS2.out];simp[af])))
 refine bodyPost_ret (results_cell_row rfl _ _ D0 48 D2 (0,0) _ rfl (setRow_heap _ _ _ _ _ _ HD7.out) Tryz.underlying48 rfl HI2.out) rfl ?_
 exact⟨by rw[HV2.out],below_setRow hb7 (by rw[HD0.out];exact Nat.le_refl _) _⟩
end Go.Proofs.YtmflnpdmlfmcpaaGreatDoor.Dr
