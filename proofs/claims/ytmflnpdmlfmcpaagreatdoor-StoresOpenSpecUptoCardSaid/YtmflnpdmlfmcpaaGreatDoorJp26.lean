/- Joined texts. -/
import Derived.Test.YtmflnpdmlfmcpaaGreatDoorJp19
import Derived.Test.YtmflnpdmlfmcpaaGreatDoorJp23
import Derived.Test.YtmflnpdmlfmcpaaGreatDoorJp25
set_option maxRecDepth 100000
set_option maxHeartbeats 8000000
namespace Go.Proofs.YtmflnpdmlfmcpaaGreatDoor.Dr
open Go.RowKit
def sb (l l':List ar)(i:Nat):Bool:=match l[i]?,l'[i]? with|some x,some y=>dY x y|_,_=>true
theorem ek {w:World}{a:Option Addr}{n:Nat}{l:List ar}(h:Sl 35 aq w a n l){k:Nat}(hk:k<n) :
  ∃x b off da dn dc,l[k]? = some x/\a=some ⟨b,off,none⟩/\x.prev.length=32/\dn<=dc/\Sl 1 ai w da dn x.data/\w.rangeAt b (off+k*35) (ah x da dn dc):=by
 obtain⟨hl,h⟩:=h
 obtain⟨x,hx⟩:=av hl hk
 rcases h with h|⟨b,off,ha,h⟩
 ·omega
 ·obtain⟨vs,_,⟨da,dn,dc,rfl,hp,_,_,hc,hs⟩,h3⟩:=h k x hx
  exact⟨x,b,off,da,dn,dc,hx,ha,hp,hc,hs,fun j v hv=>h3 j v hv⟩
theorem gL {x:ar}(h:x.prev.length=32)(a:Option Addr)(n c:Nat):(Tryz.prog.info? 50).map (·.size)=some (ah x a n c).length:=by rw[bh h];exact jg
def cT (l l':List ar):Bool:=decide (l.length=l'.length) && (List.range l.length).all (sb l l')
theorem Db {x y:ar}:dY x y=true ↔ x=y:=by
 cases x;cases y
 simp[dY,and_assoc]
theorem g6 (l:List ar):cT l l=true:=by
 unfold cT
 rw[decide_eq_true rfl,Bool.true_and,List.all_eq_true]
 intro i hi
 have hi':=List.mem_range.1 hi
 unfold sb
 rw[List.getElem?_eq_getElem hi']
 exact Db.2 rfl
theorem nz {l l':List ar}(h:cT l l'=true):l=l':=by
 unfold cT at h
 rw[Bool.and_eq_true,decide_eq_true_eq,List.all_eq_true]at h
 refine List.ext_getElem h.1 (fun i h1 h2 => ?_)
 have:=h.2 i (List.mem_range.2 h1)
 unfold sb at this
 rw[List.getElem?_eq_getElem h1,List.getElem?_eq_getElem h2]at this
 exact Db.1 this
theorem nA (a:Option Addr)(n c:Nat)(l:List ar)(a':Option Addr)(n' c':Nat)(l':List ar)(w:World)(hn:n<=100000)(hn':n'<=100000)(h:Sl 35 aq w a n l)(h':Sl 35 aq w a' n' l') :
  Calls Tryz.prog 12 #[.slice a n c,.slice a' n' c'] w fun e w'=>e=.returned (.bool (cT l l'))/\Below w.heap.size w w':=by
 obtain⟨r,hr⟩:=zg (cT l l')
 rw[<-hr]
 have HR:=aa hr
 have H:=aa h
 have H':=aa h'
 have HL:=aa h.len
 have HL':=aa h'.len
 clear h h' hr
 go_enter Tryz.func12,Tryz.ntmps12
 by_cases hnn:n=n'
 case neg =>
  have e1:((n:Int) == (n':Int))=false:=by simp;omega
  have e1':(n == n')=false:=by simpa using hnn
  have HNN:=aa hnn
  clear hnn
  go_wp2
  go_ret
  exact⟨by rw[HR.out,cT,decide_eq_false (by rw[HL.out,HL'.out];exact HNN.out)];rfl,Below.refl _ _⟩
 subst hnn
 go_wp2_with fail
 go_loopw [5] (fun s5 wr=>∃k:Nat,k<=n/\s5=.int .i64 k/\(∀j,j<k->sb l l' j=true)/\Below w.heap.size w wr) (fun s5 _=>n-(intOf s5).toNat)
 case atStart=>exact⟨0,Nat.zero_le _,rfl,fun j hj=>absurd hj (Nat.not_lt_zero _),Below.refl _ _⟩
 case round =>
  obtain⟨k,hk,rfl,hs,hB⟩:=hrel
  have HS:=aa hs
  have hsz:=hB.size
  clear hs
  by_cases hlt:k<n
  ·obtain⟨x,b,off,da,dn,dc,hx,rfl,hpx,hdc,hsx,hrx⟩:=ek H.out hlt
   obtain⟨y,b',off',ea,en,ec,hy,rfl,hpy,hec,hsy,hry⟩:=ek H'.out hlt
   have hsa:sb l l' k=dY x y:=by unfold sb;rw[hx,hy]
   have HSA:=aa hsa
   have k0:(0:Int)<=(k:Int):=om
   have k1:(k:Int)<(n:Int):=om
   have HRX:Hid (wr.drew.rangeAt b (off+k*35) (ah x da dn dc)):=aa (bS hB.drew hrx)
   have HRY:Hid (wr.drew.rangeAt b' (off'+k*35) (ah y ea en ec)):=aa (bS hB.drew hry)
   have HI1:=aa (gL hpx da dn dc)
   have HI2:=aa (gL hpy ea en ec)
   have HC:=aa (rv x y da dn dc ea en ec wr.drew hpx hpy (hsx.below ai.keeps hB.drew) (hsy.below ai.keeps hB.drew))
   clear hx hy hsx hrx hsy hry hsa
   go_upto_region 6 with (fail)
   refine wp_region_still_tail 8 kr kr ?_
   change wpStill _ _ (World.drew wr) _ _ _
   simp only[List.take_succ_cons,List.take_zero,List.drop_succ_cons,List.drop_zero]
   iterate 3 still_step
   refine fB (.agg (ah x da dn dc).toArray) rfl (aH 50 (.tmp 19) rfl b (off+k*35) rfl (ah x da dn dc) _ HRX.out Tryz.underlying50 rfl HI1.out) ?_
   simp only[Act.put,zA]
   iterate 3 still_step
   refine fB (.agg (ah y ea en ec).toArray) rfl (aH 50 (.tmp 23) rfl b' (off'+k*35) rfl (ah y ea en ec) _ HRY.out Tryz.underlying50 rfl HI2.out) ?_
   simp only[Act.put,zA]
   refine wpStill_nil ?_
   have hBd:Below w.heap.size w wr.drew:=hB.drew
   have hsd:=hBd.size
   cases hss:dY x y
   ·rw[hss]at HC
    have HSS:=aa hss
    clear hss
    go_wp2_with (go_at_call 31;refine HC.out.mono ?_;rintro e w5 ⟨rfl,hS5⟩)
    have hB5:=hBd.trans (hS5.mono hsd)
    go_ret
    have hd:r=false:=by
     rw[HR.out,cT,List.all_eq_false.2 ⟨k,List.mem_range.2 (by rw[HL.out];exact hlt),by rw[HSA.out,HSS.out];simp⟩,Bool.and_false]
    exact⟨by rw[hd];rfl,hB5⟩
   ·rw[hss]at HC
    have HSS:=aa hss
    clear hss
    go_wp2_with (go_at_call 31;refine HC.out.mono ?_;rintro e w5 ⟨rfl,hS5⟩)
    have hB5:=hBd.trans (hS5.mono hsd)
    go_wp2
    go_roundw
    case rel=>exact⟨k+1,om,by go_num,fun j hj=>by
     rcases Nat.lt_or_ge j k with h1|h1
     ·exact HS.out j h1
     ·obtain rfl:j=k:=om
      rw[HSA.out,HSS.out],hB5⟩
    case measure=>simp[intOf];omega
  ·obtain rfl:k=n:=om
   have hd:r=true:=by
    rw[HR.out,cT,decide_eq_true (by rw[HL.out,HL'.out]),Bool.true_and,List.all_eq_true]
    intro j hj
    exact HS.out j (by have:=List.mem_range.1 hj;rw[HL.out]at this;exact this)
   have HD:=aa hd
   clear hd
   go_wp2
   go_ret
   exact⟨by rw[HD.out];rfl,hB⟩
def j5 (l:List ar):Bool:=decide (l.length<=16) && (List.range l.length).all (fun i=>match l[i]? with|some x=>decide (x.data.length<=300)|none=>true)
theorem tj (a:Option Addr)(n c:Nat)(l:List ar)(w:World)(h:Sl 35 aq w a n l) :
  Calls Tryz.prog 22 #[.slice a n c] w fun e w'=>e=.returned (.bool (j5 l))/\w=w':=by
 obtain⟨r,hr⟩:=zg (j5 l)
 rw[<-hr]
 have HR:=aa hr
 have H:=aa h
 have HL:=aa h.len
 clear h hr
 go_enter Tryz.func22,Tryz.ntmps22
 by_cases hn:16<n
 ·have k4:(16:Int)<(n:Int):=om
  go_wp2
  go_ret
  exact⟨by rw[HR.out,j5,decide_eq_false (by rw[HL.out];omega)];rfl,rfl⟩
 have k4:¬(16:Int)<(n:Int):=om
 go_wp2_with fail
 clear k4
 go_loop [3] (fun s3=>∃k:Nat,k<=n/\s3=.int .i64 k/\(∀j,j<k->(match l[j]? with|some x=>decide (x.data.length<=300)|none=>true)=true)) (fun s3=>n-(intOf s3).toNat)
 case atStart=>exact⟨0,Nat.zero_le _,rfl,fun j hj=>absurd hj (Nat.not_lt_zero _)⟩
 case round =>
  obtain⟨k,hk,rfl,hs⟩:=hrel
  have HS:=aa hs
  clear hs
  by_cases hlt:k<n
  ·obtain⟨x,b,off,da,dn,dc,hx,rfl,hpx,hdc,hsx,hrx⟩:=ek H.out hlt
   have k0:(0:Int)<=(k:Int):=om
   have k1:(k:Int)<(n:Int):=om
   have hdl:x.data.length=dn:=hsx.len
   have c34:w.cell? ⟨b,off+k*35+34,none⟩=some (.slice da dn dc):=hrx 34 _ (em hpx da dn dc)
   have HX:=aa hx
   have HDL:=aa hdl
   clear hx hdl hsx hrx hpx
   by_cases h3:300<dn
   ·have k3:(300:Int)<(dn:Int):=om
    go_wp2
    go_ret
    exact⟨by rw[HR.out,j5,List.all_eq_false.2 ⟨k,List.mem_range.2 (by rw[HL.out];exact hlt),by
     show ¬((match l[k]? with|some x=>decide (x.data.length<=300)|none=>true)=true)
     rw[HX.out]
     show ¬(decide (x.data.length<=300)=true)
     rw[decide_eq_true_eq,HDL.out]
     omega⟩,Bool.and_false];rfl,rfl⟩
   ·have k3:¬(300:Int)<(dn:Int):=om
    go_wp2
    go_round
    case rel=>exact⟨k+1,om,by go_num,fun j hj=>by
     rcases Nat.lt_or_ge j k with h1|h1
     ·exact HS.out j h1
     ·obtain rfl:j=k:=om
      rw[HX.out];simp only[decide_eq_true_eq];rw[HDL.out];omega⟩
    case measure=>simp[intOf];omega
  ·obtain rfl:k=n:=om
   have hd:r=true:=by
    rw[HR.out,j5,decide_eq_true (by rw[HL.out];omega),Bool.true_and,List.all_eq_true]
    intro j hj
    exact HS.out j (by have:=List.mem_range.1 hj;rw[HL.out]at this;exact this)
   have HD:=aa hd
   clear hd
   go_wp2
   go_ret
   exact⟨by rw[HD.out];rfl,rfl⟩
def g9 (l:List ar)(node:Int):Bool:=match l[0]? with
 | some x => !(x.node == node)
 | none=>false
def ep (l:List ar)(node:Int)(d:List UInt8):Bool:=decide (node<0) || decide (24<=node) || g9 l node || decide (65536<d.length)
def cN (l:List ar)(node:Int)(d:List UInt8):List ar × Int:=
 if bz l≠0 then ([],bz l) else if ep l node d=true then ([],1) else if l.length=1024 then ([],2) else (l++[⟨node,l.length,bR l,d⟩],0)
structure Cs (l:List ar)(k:Nat)(x:ar):Prop where
 first:∀y,l[0]? = some y->x.node=y.node
 lo:0<=x.node
 hi:x.node<24
 no:x.no=k
 len:x.data.length<=65536
 prev:x.prev=bR (l.take k)
theorem eZ {l:List ar}:bz l=0 ↔ l.length<=1024/\∀k x,l[k]? = some x->Cs l k x:=by
 unfold bz
 by_cases h:1024<l.length
 ·rw[if_pos h]
  exact⟨fun q=>om,fun q=>om⟩
 rw[if_neg h]
 have h2:(List.range l.length).all (fl l)=true ↔ ∀k x,l[k]? = some x->Cs l k x:=by
  rw[List.all_eq_true]
  constructor
  ·intro q k x hx
   have hk:=(List.getElem?_eq_some_iff.1 hx).1
   have:=q k (List.mem_range.2 hk)
   obtain⟨y,hy⟩:∃y,l[0]? = some y:=⟨_,List.getElem?_eq_getElem om⟩
   rw[fl,hx,hy]at this
   simp only[Bool.and_eq_true,decide_eq_true_eq]at this
   obtain⟨⟨⟨⟨⟨a,b⟩,c⟩,d⟩,e⟩,f⟩:=this
   exact⟨fun z hz=>by rw[hy]at hz;cases hz;exact a,b,c,d,e,f⟩
  ·intro q k hk
   have hk:=List.mem_range.1 hk
   have hx:=List.getElem?_eq_getElem hk
   have hy:l[0]? = some l[0]:=List.getElem?_eq_getElem om
   have o:=q k _ hx
   rw[fl,hx,hy]
   simp only[Bool.and_eq_true,decide_eq_true_eq]
   exact⟨⟨⟨⟨⟨o.first _ hy,o.lo⟩,o.hi⟩,o.no⟩,o.len⟩,o.prev⟩
 constructor
 ·intro q
  refine⟨om,h2.1 ?_⟩
  by_cases h3:(List.range l.length).all (fl l)=true
  ·exact h3
  ·rw[if_neg h3]at q;cases q
 ·intro q
  rw[if_pos (h2.2 q.2)]
theorem uM : bz []=0:=eZ.2 ⟨by simp,fun k x h=>by simp at h⟩
theorem sQ {l:List ar}(h:bz l=0)(m:Nat):bz (l.take m)=0:=by
 obtain⟨h1,h2⟩:=eZ.1 h
 refine eZ.2 ⟨by rw[List.length_take];omega,fun k x hx => ?_⟩
 have hk:k<m:=by
  rcases Nat.lt_or_ge k m with q|q
  ·exact q
  ·rw[List.getElem?_take,if_neg om]at hx;cases hx
 rw[List.getElem?_take,if_pos hk]at hx
 have o:=h2 k x hx
 refine⟨fun y hy => ?_,o.lo,o.hi,o.no,o.len,?_⟩
 ·rw[List.getElem?_take,if_pos om]at hy
  exact o.first y hy
 ·rw[o.prev,List.take_take,Nat.min_eq_left (Nat.le_of_lt hk)]
theorem iQ {l:List ar}{node:Int}{d:List UInt8}(h:ep l node d=false):0<=node/\node<24/\(∀x,l[0]? = some x->x.node=node)/\d.length<=65536:=by
 unfold ep at h
 simp only[Bool.or_eq_false_iff,decide_eq_false_iff_not]at h
 obtain⟨⟨⟨a,b⟩,c⟩,e⟩:=h
 refine⟨om,om,fun x hx => ?_,om⟩
 rw[g9,hx]at c
 simpa using c
theorem AX {l:List ar}{node:Int}{d:List UInt8}(h1:0<=node)(h2:node<24)(h3:∀x,l[0]? = some x->x.node=node)(h4:d.length<=65536):ep l node d=false:=by
 unfold ep
 simp only[Bool.or_eq_false_iff,decide_eq_false_iff_not]
 refine⟨⟨⟨om,om⟩,?_⟩,om⟩
 unfold g9
 cases hx:l[0]? with
 | none=>rfl
 | some x=>simp[h3 x hx]
theorem sR {l:List ar}{node:Int}{d:List UInt8}(h:bz l=0)(hb:ep l node d=false)(hl:l.length<1024):bz (l++[⟨node,l.length,bR l,d⟩])=0:=by
 obtain⟨h1,h2⟩:=eZ.1 h
 obtain⟨b1,b2,b3,b4⟩:=iQ hb
 refine eZ.2 ⟨by simp;omega,fun k x hx => ?_⟩
 rcases Nat.lt_or_ge k l.length with hk|hk
 ·rw[List.getElem?_append_left hk]at hx
  have o:=h2 k x hx
  refine⟨fun y hy => ?_,o.lo,o.hi,o.no,o.len,?_⟩
  ·rw[List.getElem?_append_left om]at hy
   exact o.first y hy
  ·rw[o.prev,List.take_append_of_le_length (Nat.le_of_lt hk)]
 ·obtain rfl:k=l.length:=by
   have:=(List.getElem?_eq_some_iff.1 hx).1
   simp at this
   omega
  rw[List.getElem?_append_right (Nat.le_refl _),Nat.sub_self]at hx
  simp only[List.getElem?_cons_zero,Option.some.injEq]at hx
  subst hx
  refine⟨fun y hy => ?_,b1,b2,rfl,b4,by simp⟩
  cases l with
  | nil=>simp at hy;subst hy;rfl
  | cons z l=>simp at hy;subst hy;exact(b3 z (by simp)).symm
theorem mu {l:List ar}{node:Int}{d:List UInt8}(h:bz l=0)(hb:ep l node d=false)(hl:l.length≠1024):cN l node d=(l++[⟨node,l.length,bR l,d⟩],0):=by
 unfold cN
 rw[if_neg (by rw[h];simp),if_neg (by rw[hb];simp),if_neg hl]
theorem zb {l:List ar}{node:Int}{d:List UInt8}(h:bz l=0)(hb:ep l node d=true):cN l node d=([],1):=by
 unfold cN
 rw[if_neg (by rw[h];simp),if_pos hb]
theorem ia {P:Program}{o:Oper}{a:Act}{w:World}{K:Act->World->Prop}{Q:Exit->Act->World->Prop}(f:FuncId)(args:Array Value)(hr:(execOp a.eval o).run P w=.ok (.enter f args) w)
  (hc:Calls P f args w fun e w'=>∃v,e=.returned v/\K (a.put o.dst v) w'):o.wp P a w K Q:=by
 unfold Oper.wp
 rw[hr]
 exact hc.mono fun e w' ⟨v,he,hk⟩=>by subst he;exact hk
theorem fa {o:Oper}{a:Act}{W:World}(x:Operand)(ho:o.op=.load 3 x)(p:Addr){v:Value}(hx:a.eval x=.pointer (some p))(hc:W.cell? p=some v):(execOp a.eval o).run Tryz.prog W=.ok (.value v) W:=by
 unfold execOp
 simp only[ho,hx]
 go_simp
theorem mT {o:Oper}{a:Act}{W:World}(x:Operand)(ho:o.op=.load 40 x)(p:Addr){v:Value}(hx:a.eval x=.pointer (some p))(hc:W.cell? p=some v):(execOp a.eval o).run Tryz.prog W=.ok (.value v) W:=by
 unfold execOp
 simp only[ho,hx]
 go_simp
theorem rK (n:Int)(w:World) :
  Calls Tryz.prog 132 #[.int .i64 n] w fun e w'=>e=.returned (.agg #[.int .i64 1,.int .i64 n,.string ⟨#[]⟩,.slice none 0 0])/\Below w.heap.size w w':=by
 go_enter Tryz.func132,Tryz.ntmps132
 go_wp2
 refine bodyPost_ret (by simp[results,Tryz.results132,go_sem];try rfl) rfl ?_
 exact⟨rfl,by go_grown⟩
theorem xh (a:Option Addr)(n c:Nat)(l:List UInt8)(w:World)(h:Sl 1 ai w a n l) :
  Calls Tryz.prog 133 #[.slice a n c] w fun e w'=>e=.returned (.agg #[.int .i64 2,.int .i64 0,.string (aw l),.slice none 0 0])/\Below w.heap.size w w':=by
 have hB:=(Below.refl _ w).alloc (Nat.le_refl _) (.cells #[.int .i64 0,.int .i64 0,.string ⟨#[]⟩,.slice none 0 0] 88)
 have hcv:=dB (c:=c) (h.below ai.keeps hB)
 clear hB
 go_enter Tryz.func133,Tryz.ntmps133
 go_wp2
 refine bodyPost_ret (by simp[results,Tryz.results133,go_sem];try rfl) rfl ?_
 exact⟨rfl,by go_grown⟩
theorem nB {w:World}{a:Option Addr}{n:Nat}{l:List ar}(h:Sl 35 aq w a n l){k:Nat}{x:ar}(hx:l[k]? = some x):bQ x.node/\bQ x.no:=by
 rcases h.2 with h0|⟨b,off,_,hc⟩
 ·have:=(List.getElem?_eq_some_iff.1 hx).1;rw[h.1]at this;omega
 ·obtain⟨L,_,⟨_,_,_,_,_,h1,h2,_⟩,_⟩:=hc k x hx
  exact⟨h1,h2⟩
def nC (l:List ar):List UInt8:=match l.getLast? with
 | none=>qF
 | some _=>oh
def kX (l:List ar):List UInt8:=match l.getLast? with
 | none=>[]
 | some x=>aL (cM x)
theorem uN (l:List ar):bR l=ik (nC l) (kX l):=by unfold bR nC kX;cases l.getLast? <;> rfl
theorem zd (a:Option Addr)(n c:Nat)(l:List ar)(T E:List UInt8)(hT:nC l=T)(hE:kX l=E)(w:World)(hn:n<=100000)(h:Sl 35 aq w a n l)(hd:∀x ∈ l,x.data.length<=100000) :
  Calls Tryz.prog 108 #[.slice a n c] w fun e w'=>(∃va vc,e=.returned (.tuple #[.string (aw T),.slice va E.length vc])/\Sl 1 ai w' va E.length E)/\Below w.heap.size w w':=by
 obtain⟨i0,hi0,hz0,hz1,hz2⟩:=eO
 have HT:=aa hT
 have HE:=aa hE
 have H:=aa h
 have HLEN:=aa h.len
 clear h hT hE
 go_enter Tryz.func108,Tryz.ntmps108
 by_cases h0:n=0
 ·have hl0:l=[]:=List.eq_nil_of_length_eq_zero (by rw[HLEN.out];exact h0)
  have HT2:Hid (T=qF):=by rw[Hid,<-HT.out,hl0];rfl
  have HE2:Hid (E=[]):=by rw[Hid,<-HE.out,hl0];rfl
  subst h0
  clear hl0 hd
  go_wp2
  refine bodyPost_ret (by simp[results,Tryz.results108,go_sem];try rfl) rfl ?_
  refine⟨⟨none,0,by rw[HT2.out,HE2.out];rfl,by rw[HE2.out];exact Sl.nil _ _ _ _⟩,Below.refl _ _⟩
 obtain⟨k,hk⟩:=zg (n-1)
 have hk1:(n:Int)-1=(k:Int):=om
 have k1:(k:Int)<(n:Int):=om
 have k2:¬(n:Int)=0:=om
 obtain⟨x,b,off,da,dn,dc,hx,rfl,hp,hdc,hsd,hrx⟩:=ek H.out (show k<n by omega)
 have hlast:l.getLast? = some x:=by rw[List.getLast?_eq_getElem?,HLEN.out,<-hk];exact hx
 have hxd:=hd x (List.mem_of_getElem? hx)
 have HI64:=aa (nB H.out hx)
 have HT2:Hid (T=oh):=by rw[Hid,<-HT.out,nC,hlast]
 have HE2:Hid (aL (cM x)=E):=by rw[Hid,<-HE.out,kX,hlast]
 have hel:E.length<=200000:=by rw[<-HE2.out];exact gJ x HI64.out.1 HI64.out.2 hp hxd
 have HRX:Hid (w.rangeAt b (off+k*35) (ah x da dn dc)):=hrx
 have HSD:=aa hsd
 have HP:=aa hp
 have HX0:=aa hx
 clear hlast hx hk h0 hd hrx hsd
 go_upto_region 4 with (first|(refine wpList_load_mid rfl 50 (.tmp 16) rfl b (off+k*35) ?e1 (ah x da dn dc) _ HRX.out Tryz.underlying50 rfl (gL HP.out da dn dc) ?_;(case e1=>rfl))|(refine wpList_store_row rfl 50 (.tmp 4) (.tmp 17) rfl w.heap.size (ah x da dn dc).toArray ?e2 ?e3 50 zH (heap_alloc_new w _) ?e4 ?e5 (bM x da dn dc) ?_;(case e2=>rfl);(case e3=>rfl);(case e4=>exact gL HP.out da dn dc);(case e5=>exact(bh HP.out da dn dc).symm)))
 have hx2:ac ((w.alloc (.cells zH 50)).setRow w.heap.size (ah x da dn dc).toArray) w.heap.size 50 (ah x da dn dc):=setRow_heap _ _ _ _ _ _ (heap_alloc_new w _)
 have hB2:Below w.heap.size w ((w.alloc (.cells zH 50)).setRow w.heap.size (ah x da dn dc).toArray):=bf _ _ _
 obtain⟨X,hX⟩:=zg w.heap.size
 generalize (w.alloc (.cells zH 50)).setRow w.heap.size (ah x da dn dc).toArray=w2 at *
 rw[<-hX]at hx2 ⊢
 clear hX
 go_wp2_with fail
 go_loopw [5,6] (fun s5 s6 wr=>∃(j:Nat) (A:Option Addr) (C:Nat),j<=32/\s6=.int .i64 j/\s5=.slice A j C/\wr.ownsRow w.heap.size 5 1 (.slice A j C) j (af (x.prev.take j))/\ac wr X 50 (ah x da dn dc)/\Below w.heap.size w wr) (fun _ s6 _=>32-(intOf s6).toNat)
 case atStart=>exact⟨0,none,0,Nat.zero_le _,rfl,rfl,by rw[List.take_zero];exact World.ownsRow_nil _ _ _ _,hx2,hB2⟩
 case round =>
  clear hx2 hB2
  obtain⟨j,A,C,hj,rfl,rfl,hown,hxr,hB⟩:=hrel
  have hzr:=hB.size
  by_cases hlt:j<32
  ·obtain⟨pb,hpb⟩:=av HP.out hlt
   have cj:wr.cell? ⟨X,2+j,none⟩=some (.int .u8 pb.toNat):=by
    have:=(ac.cell hxr (j+2)).trans (iN j pb hpb da dn dc)
    rwa [Nat.add_comm j 2]at this
   have HXR:=aa hxr
   have HOWN:=aa hown
   have HTK:=aa (cp x.prev j pb hpb)
   have j1:(j:Int)<32:=om
   have j0:(0:Int)<=(j:Int):=om
   clear hxr hown hpb
   go_wp2_with (at_builtin;refine aD rfl (.tmp 22) (.tmp 27) 40 rfl w.heap.size 5 i0 (.int .u8 0) 1 1 Tryz.underlying40 hi0 hz0 hz1 hz2 rfl (by decide) (.slice A j C) j (af (x.prev.take j)) rfl (HOWN.out.alloc _) (some ⟨wr.heap.size,0,none⟩) 1 1 [.int .u8 pb.toNat] rfl rfl ?p0 (eX _ _) ?p2 ?p3 ?p4 ?p5 ?_;rotate_right;intro va vc w3 hown3 hgrow3)
   case p0=>intro h;cases h
   case p2=>intro q hq;simp only[List.mem_singleton]at hq;subst hq;rfl
   case p3=>unfold maxLen;omega
   case p4=>omega
   case p5=>simp;omega
   have hB3:=(hB.alloc hzr (.cells #[.int .u8 pb.toNat] 5)).grown hgrow3 (Nat.le_trans hzr (by simp)) (bU HOWN.out)
   have hx3:ac w3 X 50 (ah x da dn dc):=bx (ac.alloc HXR.out _) hgrow3 (de HOWN.out HXR.out (by decide))
   go_roundw
   case rel=>exact⟨j+1,va,vc,om,by go_num,rfl,by rw[HTK.out];simpa[af] using hown3,hx3,hB3⟩
   case measure=>simp[intOf];omega
  ·obtain rfl:j=32:=om
   have hpt:x.prev.take 32=x.prev:=List.take_of_length_le (by rw[HP.out];exact Nat.le_refl _)
   rw[hpt]at hown
   obtain⟨_,hsp⟩:=fE hown HP.out
   go_upto_region 9 with (fail)
   have hx3:ac (World.drew wr) X 50 (ah x da dn dc):=hxr
   have hb3:Below w.heap.size w (World.drew wr):=hB.drew
   have hsp3:Sl 1 ai (World.drew wr) A 32 x.prev:=hsp.below ai.keeps ((Below.refl _ wr).drew)
   clear hown hxr hB hsp hpt hzr
   refine bZ (fun W=>ac W X 50 (ah x da dn dc)) 18 kr ?_
   change bT _ _ _ _ _ _ _ _ _ (World.drew wr)
   generalize World.drew wr=w3 at *
   refine fp 0 (.pointer (some ⟨X,0,none⟩)) rfl hx3 ?_
   simp only[Act.put,zA]
   refine eL 1 (.int .i64 x.node) rfl (fun W hW=>fa (.tmp 30) kr ⟨X,0,none⟩ kr ((ac.cell hW 0).trans (dj x da dn dc))) hx3 ?_
   simp only[Act.put]
   refine fp 3 (.pointer (some ⟨X,1,none⟩)) rfl hx3 ?_
   simp only[Act.put]
   refine eL 4 (.int .i64 x.no) rfl (fun W hW=>fa (.tmp 33) kr ⟨X,1,none⟩ kr ((ac.cell hW 1).trans (fi x da dn dc))) hx3 ?_
   simp only[Act.put]
   refine fp 6 (.slice A 32 C) rfl hx3 ?_
   simp only[Act.put]
   refine fp 8 (.pointer (some ⟨X,34,none⟩)) rfl hx3 ?_
   simp only[Act.put]
   refine eL 9 (.slice da dn dc) rfl (fun W hW=>mT (.tmp 38) kr ⟨X,34,none⟩ kr ((ac.cell hW 34).trans (em HP.out da dn dc))) hx3 ?_
   simp only[Act.put]
   refine aC 2 kr rfl rfl ?_
   refine ia 132 #[.int .i64 x.node] kr ?_
   refine(rK x.node w3).mono ?_
   rintro e w4 ⟨rfl,hS⟩
   have hx4:=hx3.below hS hx3.lt
   have hb4:=hb3.trans (hS.mono hb3.size)
   have hsp4:=hsp3.below ai.keeps hS
   clear hsp3
   have hsp3:=hsp4
   clear hsp4
   clear hx3 hb3 hS
   have hx3:=hx4
   have hb3:=hb4
   clear hx4 hb4
   refine⟨_,rfl,.inr hx3,?_⟩
   simp only[Act.put]
   refine aC 5 kr rfl rfl ?_
   refine ia 132 #[.int .i64 x.no] kr ?_
   refine(rK x.no w4).mono ?_
   rintro e w5 ⟨rfl,hS⟩
   have hx4:=hx3.below hS hx3.lt
   have hb4:=hb3.trans (hS.mono hb3.size)
   have hsp4:=hsp3.below ai.keeps hS
   clear hsp3
   have hsp3:=hsp4
   clear hsp4
   clear hx3 hb3 hS
   have hx3:=hx4
   have hb3:=hb4
   clear hx4 hb4
   refine⟨_,rfl,.inr hx3,?_⟩
   simp only[Act.put]
   refine aC 7 kr rfl rfl ?_
   refine ia 133 #[.slice A 32 C] kr ?_
   refine(xh A 32 C x.prev w5 hsp3).mono ?_
   rintro e w6 ⟨rfl,hS⟩
   have hx4:=hx3.below hS hx3.lt
   have hb4:=hb3.trans (hS.mono hb3.size)
   clear hx3 hb3 hS
   have hx3:=hx4
   have hb3:=hb4
   clear hx4 hb4
   refine⟨_,rfl,.inr hx3,?_⟩
   simp only[Act.put]
   refine aC 10 kr rfl rfl ?_
   refine ia 133 #[.slice da dn dc] kr ?_
   refine(xh da dn dc x.data w6 (HSD.out.below ai.keeps hb3)).mono ?_
   rintro e w7 ⟨rfl,hS⟩
   have hx4:=hx3.below hS hx3.lt
   have hb4:=hb3.trans (hS.mono hb3.size)
   clear hx3 hb3 hS
   have hx3:=hx4
   have hb3:=hb4
   clear hx4 hb4
   refine⟨_,rfl,.inr hx3,?_⟩
   simp only[Act.put]
   obtain⟨G,hG⟩:=zg w7.heap.size
   have hrg:=ak (w:=w7) (.cells #[.int .i64 1,.int .i64 x.node,.string ⟨#[]⟩,.slice none 0 0,.int .i64 1,.int .i64 x.no,.string ⟨#[]⟩,.slice none 0 0,.int .i64 2,.int .i64 0,.string (aw x.prev),.slice none 0 0,.int .i64 2,.int .i64 0,.string (aw x.data),.slice none 0 0] 88) hG
   have hvr:=mj (w7.alloc (.cells #[.int .i64 1,.int .i64 x.node,.string ⟨#[]⟩,.slice none 0 0,.int .i64 1,.int .i64 x.no,.string ⟨#[]⟩,.slice none 0 0,.int .i64 2,.int .i64 0,.string (aw x.prev),.slice none 0 0,.int .i64 2,.int .i64 0,.string (aw x.data),.slice none 0 0] 88)) G x HI64.out.1 HI64.out.2 hrg
   have hx8:=ac.alloc hx3 (.cells #[.int .i64 1,.int .i64 x.node,.string ⟨#[]⟩,.slice none 0 0,.int .i64 1,.int .i64 x.no,.string ⟨#[]⟩,.slice none 0 0,.int .i64 2,.int .i64 0,.string (aw x.prev),.slice none 0 0,.int .i64 2,.int .i64 0,.string (aw x.data),.slice none 0 0] 88)
   have hb8:=hb3.alloc hb3.size (.cells #[.int .i64 1,.int .i64 x.node,.string ⟨#[]⟩,.slice none 0 0,.int .i64 1,.int .i64 x.no,.string ⟨#[]⟩,.slice none 0 0,.int .i64 2,.int .i64 0,.string (aw x.prev),.slice none 0 0,.int .i64 2,.int .i64 0,.string (aw x.data),.slice none 0 0] 88)
   refine aC 11 kr rfl rfl ?_
   refine dX (w':=w7.alloc (.cells #[.int .i64 1,.int .i64 x.node,.string ⟨#[]⟩,.slice none 0 0,.int .i64 1,.int .i64 x.no,.string ⟨#[]⟩,.slice none 0 0,.int .i64 2,.int .i64 0,.string (aw x.prev),.slice none 0 0,.int .i64 2,.int .i64 0,.string (aw x.data),.slice none 0 0] 88)) (.slice (some ⟨G,0,none⟩) 4 4) (by rw[hG];kernel_rfl) ?_
   generalize w7.alloc (.cells #[.int .i64 1,.int .i64 x.node,.string ⟨#[]⟩,.slice none 0 0,.int .i64 1,.int .i64 x.no,.string ⟨#[]⟩,.slice none 0 0,.int .i64 2,.int .i64 0,.string (aw x.prev),.slice none 0 0,.int .i64 2,.int .i64 0,.string (aw x.data),.slice none 0 0] 88)=w8 at *
   clear hG hrg hx3 hb3
   refine⟨.inr hx8,?_⟩
   simp only[Act.put]
   refine aC 12 kr rfl rfl ?_
   refine dX (w':=w8) (.agg #[.int .i64 3,.int .i64 0,.string ⟨#[]⟩,.slice (some ⟨G,0,none⟩) 4 4]) kr ?_
   refine⟨.inr hx8,?_⟩
   simp only[Act.put]
   refine aC 13 kr rfl rfl ?_
   refine ia 76 #[.agg #[.int .i64 3,.int .i64 0,.string ⟨#[]⟩,.slice (some ⟨G,0,none⟩) 4 4]] kr ?_
   refine(ux 1 om (cM x) E HE2.out _ _ _ _ w8 om hvr).mono ?_
   rintro e w9 ⟨⟨va,vc,rfl,_,hsv⟩,hS⟩
   have hx9:=hx8.below hS hx8.lt
   have hb9:=hb8.trans (hS.mono hb8.size)
   clear hx8 hb8 hS hvr
   refine⟨_,rfl,.inr hx9,?_⟩
   simp only[Act.put]
   refine aC 14 kr rfl rfl ?_
   refine dX (w':=w9) (.tuple #[.slice va E.length vc,.int .i64 0]) kr ?_
   refine⟨.inr hx9,?_⟩
   simp only[Act.put]
   refine fp 15 (.slice va E.length vc) rfl hx9 ?_
   simp only[Act.put]
   refine fp 16 (.int .i64 0) rfl hx9 ?_
   simp only[Act.put]
   refine aC 17 kr rfl rfl ?_
   refine dX (w':=w9) (.slice va E.length vc) kr ?_
   refine⟨.inr hx9,?_⟩
   simp only[Act.put]
   refine aC 18 kr rfl rfl ?_
   refine dX (w':=w9) (.int .i64 0) kr ?_
   refine⟨.inr hx9,?_⟩
   simp only[Act.put]
   refine cV kr ?_
   go_wp2
   refine bodyPost_ret (by simp[results,Tryz.results108,go_sem];try rfl) rfl ?_
   exact⟨⟨va,vc,by rw[HT2.out];rfl,hsv⟩,hb9⟩
def jL (e:Ending)(w:World)(r:List ar × Int):Prop:=∃va vn vc,e=.returned (.tuple #[.slice va vn vc,.int .i64 r.2])/\vn<=vc/\Sl 35 aq w va vn r.1
theorem kB {r:List ar × Int}{k:Int}(w:World)(h:r=([],k)):jL (.returned (.tuple #[.slice none 0 0,.int .i64 k])) w r:=by
 subst h
 exact⟨none,0,0,rfl,Nat.le_refl _,Sl.nil _ _ _ _⟩
theorem zM {w:World}{base n c:Nat}{a:Option Addr}{b:List UInt8}(h:w.ownsRow base 5 1 (.slice a n c) n (af b))(hl:b.length=n):n<=c/\Sl 1 ai w a n b:=by
 obtain⟨_,h1,h2⟩:=d8 (R:=ai) h b hl (fun i x hx=>⟨_,cd hx,rfl⟩)
 exact⟨h1,h2⟩
theorem tb {o:Oper}{act:Act}{W:World}(p q r:Operand)(ho:o.op=.slice 30 p none (some q) (some r))(a:Option Addr)(n c:Nat)(hp:act.eval p=.slice a n c)(hq:act.eval q=.int .i64 n)(hr:act.eval r=.int .i64 n)(hnc:n<=c)(hz:a=none->n=0) :
  (execOp act.eval o).run Tryz.prog W=.ok (.value (.slice a n n)) W:=by
 unfold execOp
 simp only[ho,hp,hq,hr,Option.map_some,Option.map_none]
 cases a with
 | none =>
  obtain rfl:=hz rfl
  go_simp
 | some ad =>
  go_simp
theorem Bc (a:Option Addr)(n c:Nat)(l:List ar)(node:Int)(da:Option Addr)(dn dc:Nat)(d:List UInt8)(w:World)(hn:n<=100000)(hnc:n<=c)(hi:dV w)(h:Sl 35 aq w a n l)(hd:∀x ∈ l,x.data.length<=100000)
  (hI:bQ node) (hdn:dn<=1000000) (hs:Sl 1 ai w da dn d) :
  Calls Tryz.prog 34 #[.slice a n c,.int .i64 node,.slice da dn dc] w fun e w'=>jL e w' (cN l node d)/\Below w.heap.size w w':=by
 obtain⟨r,hr⟩:=zg (cN l node d)
 rw[<-hr]
 have HR:=aa hr
 have H:=aa h
 have HI:=aa hi
 have HD:=aa hd
 have HS:=aa hs
 have HL:=aa h.len
 have HDL:=aa hs.len
 have HII:=aa hI
 obtain⟨k1,hk1⟩:=zg (bz l)
 have HC:=aa (gI a n c l w hn hnc hi h hd)
 rw[<-hk1]at HC
 have K1:=aa hk1
 clear h hr hi hd hs hI hk1
 go_enter Tryz.func34,Tryz.ntmps34
 go_wp2_with fail
 refine HC.out.mono ?_
 rintro e w1 ⟨rfl,hB1⟩
 clear HC
 by_cases h1:k1=0
 case neg =>
  have e1:(k1 == 0)=false:=by simpa using h1
  have e1':(k1 != 0)=true:=by simpa using h1
  have H1:=aa h1
  clear h1
  go_wp2
  refine bodyPost_ret (by simp[results,Tryz.results34,go_sem];try rfl) rfl ?_
  exact⟨kB _ (by rw[HR.out,cN,if_pos (by rw[<-K1.out];exact H1.out),<-K1.out]),hB1⟩
 subst h1
 obtain⟨bad,hbad⟩:=zg (ep l node d)
 have HBAD:=aa hbad
 clear hbad
 go_upto_region 4 with (fail)
 go_cut [37] (fun s37 wx=>s37=.bool bad/\w1=wx)
 case first =>
  by_cases g1:node<0
  ·have HX:Hid (bad=true):=by rw[Hid,HBAD.out,ep,decide_eq_true g1];rfl
   go_wp2_with fail
   go_meet
   exact⟨by rw[HX.out],rfl⟩
  by_cases g2:(24:Int)<=node
  ·have HX:Hid (bad=true):=by rw[Hid,HBAD.out,ep,decide_eq_true g2,Bool.or_true];rfl
   go_wp2_with fail
   go_meet
   exact⟨by rw[HX.out],rfl⟩
  rcases Nat.eq_zero_or_pos n with h0|h0
  ·have ho:g9 l node=false:=by rw[g9,List.getElem?_eq_none (by rw[HL.out,h0];exact Nat.le_refl _)]
   have HX:Hid (bad=decide ((65536:Int)<(dn:Int))):=by
    rw[Hid,HBAD.out,ep,decide_eq_false g1,decide_eq_false g2,ho,HDL.out]
    simp
    omega
   have g0:¬(0:Int)<(n:Int):=om
   clear h0 ho
   by_cases g4:(65536:Int)<(dn:Int)
   all_goals
    go_wp2_with fail
    go_meet
    exact⟨by rw[HX.out];simp[g4],rfl⟩
  ·obtain⟨x,b,off,xa,xn,xc,hx,rfl,hpx,hdc,hsx,hrx⟩:=ek H.out h0
   have ho:g9 l node = !(x.node == node):=by rw[g9,hx]
   have c0:w1.cell? ⟨b,off,none⟩=some (.int .i64 x.node):=by
    have:=ag hB1 (hrx 0 _ (dj x xa xn xc))
    simpa using this
   have g0:(0:Int)<(n:Int):=om
   have HX:Hid (bad=(!(x.node == node) || decide ((65536:Int)<(dn:Int)))):=by
    rw[Hid,HBAD.out,ep,decide_eq_false g1,decide_eq_false g2,ho,HDL.out]
    simp only[Bool.false_or]
    congr 1
    exact decide_eq_decide.2 om
   clear hx hsx hrx ho
   by_cases g3:x.node=node
   ·have e1:(node == x.node)=true:=by simpa using g3.symm
    have e1':(node != x.node)=false:=by simpa using g3.symm
    have HX2:Hid (bad=decide ((65536:Int)<(dn:Int))):=by rw[Hid,HX.out,g3];simp
    clear HX g3
    by_cases g4:(65536:Int)<(dn:Int)
    all_goals
     go_wp2_with fail
     go_meet
     exact⟨by rw[HX2.out];simp[g4],rfl⟩
   ·have e1:(node == x.node)=false:=by simpa using fun q:node=x.node=>g3 q.symm
    have e1':(node != x.node)=true:=by simpa using fun q:node=x.node=>g3 q.symm
    have HX2:Hid (bad=true):=by rw[Hid,HX.out];simp[g3]
    clear HX g3
    go_wp2_with fail
    go_meet
    exact⟨by rw[HX2.out],rfl⟩
 case rest =>
  obtain⟨rfl,rfl⟩:=hcut
  cases bad
  ·by_cases h4:n=1024
   ·have HX:Hid (r=([],2)):=by rw[Hid,HR.out,cN,if_neg (by rw[<-K1.out];simp),if_neg (by rw[<-HBAD.out];simp),if_pos (by rw[HL.out];exact h4)]
    have e4:(n:Int)=1024:=om
    clear h4
    go_wp2
    refine bodyPost_ret (by simp[results,Tryz.results34,go_sem];try rfl) rfl ?_
    exact⟨kB _ HX.out,hB1⟩
   have hbb:=iQ HBAD.out.symm
   have hn1:n<=1024:=by rw[<-HL.out];exact(eZ.1 K1.out.symm).1
   have HX:Hid (r=(l++[⟨node,n,bR l,d⟩],0)):=by rw[Hid,HR.out,mu K1.out.symm HBAD.out.symm (by rw[HL.out];exact h4),HL.out]
   have hdl:=hbb.2.2.2
   have k4:¬(n:Int)=1024:=om
   obtain⟨hm,hhm⟩:=zg (bR l)
   have hlm:hm.length=32:=by rw[hhm];exact dI l
   have HH:=aa (nr a n c l w1 hn (HI.out.below hB1) (H.out.below aq.keeps hB1) HD.out)
   rw[<-hhm]at HH HX
   rw[HDL.out]at hdl
   have HDN:=aa hdl
   have HNN:=aa hn1
   have HLM:=aa hlm
   clear hhm hbb h4 hdl hn1 hlm
   go_wp2_with fail
   refine HH.out.mono ?_
   rintro e w2 ⟨rfl,hS2⟩
   have hB2:=hB1.trans (hS2.mono hB1.size)
   clear hS2 HH
   go_wp2_with fail
   refine(lu da dn dc d w2 (by have:=HDN.out;omega) (HS.out.below ai.keeps hB2)).mono ?_
   rintro e w3 ⟨⟨va,vc,rfl,hown⟩,hS3⟩
   have hB3:=hB2.trans (hS3.mono hB2.size)
   obtain⟨hvc,hsl⟩:=zM hown HDL.out
   have HSL:=aa hsl
   obtain⟨x,hx⟩:∃x:ar,x=⟨node,n,hm,d⟩:=⟨_,rfl⟩
   have hpx:x.prev.length=32:=by rw[hx];exact HLM.out
   have HX1:=aa hx
   have HPX:=aa hpx
   clear hS3 hown hsl hx hpx
   go_upto_region 9 with (first|(refine bm (.agg (ah x va dn vc).toArray) rfl (dJ _ _ _ _ rfl x HPX.out va dn vc (by rw[HX1.out];rfl) (by rw[HX1.out];rfl) (by rw[HX1.out];rfl) rfl) ?_;simp only[Act.put,zA])|(refine wpList_store_row rfl 50 (.tmp 8) (.tmp 48) rfl w3.heap.size (ah x va dn vc).toArray ?e2 ?e3 50 zH (heap_alloc_new w3 _) ?e4 ?e5 (bM x va dn vc) ?_;(case e2=>rfl);(case e3=>rfl);(case e4=>exact gL HPX.out va dn vc);(case e5=>exact(bh HPX.out va dn vc).symm)))
   obtain⟨X,hX⟩:=zg w3.heap.size
   have hz0:w3.heap.size<=X:=Nat.le_of_eq hX.symm
   have hBa:Below w.heap.size w (w3.alloc (.cells zH 50)):=hB3.alloc hB3.size _
   have hr0:(w3.alloc (.cells zH 50)).heap[X]? = some (.cells zH 50 (0,0)):=by rw[hX];exact heap_alloc_new w3 _
   have hlt:X<(w3.alloc (.cells zH 50)).heap.size:=lt_of_block hr0
   have hrw:ac ((w3.alloc (.cells zH 50)).setRow X (ah x va dn vc).toArray) X 50 (ah x va dn vc):=setRow_heap _ _ _ _ _ _ hr0
   have hB4:Below w.heap.size w ((w3.alloc (.cells zH 50)).setRow X (ah x va dn vc).toArray):=below_setRow hBa (Nat.le_trans hB3.size hz0) _
   have hS4:Below w3.heap.size w3 ((w3.alloc (.cells zH 50)).setRow X (ah x va dn vc).toArray):=below_setRow ((Below.refl _ w3).alloc (Nat.le_refl _) _) hz0 _
   rw[<-hX]
   generalize (w3.alloc (.cells zH 50)).setRow X (ah x va dn vc).toArray=w4 at *
   have hsl4:=HSL.out.below ai.keeps hS4
   have hrl:aq w4 (ah x va dn vc) x:=⟨va,dn,vc,rfl,HPX.out,by rw[HX1.out];exact HII.out,by rw[HX1.out];exact⟨by show -9223372036854775808<=(n:Int);omega,by have:=HNN.out;show (n:Int)<=9223372036854775807;omega⟩,hvc,by rw[HX1.out];exact hsl4⟩
   obtain⟨vs,v1,v2,v3,v4,v5⟩:=Sl.flat (by decide) iO (H.out.below aq.keeps hB4)
   have HRL:=aa hrl
   have V1:=aa v1
   have V2:=aa v2
   have V3:=aa v3
   have V5:=aa v5
   have HB4:=aa hB4
   clear hX hz0 hBa hr0 hlt hS4 hsl4 hrl v1 v2 v3 v4 v5 hB4 hB3 HSL
   refine bZ (fun W=>ac W X 50 (ah x va dn vc)) 10 kr ?_
   change bT _ _ _ _ _ _ _ _ _ (World.drew w4)
   have hx3:ac (World.drew w4) X 50 (ah x va dn vc):=hrw
   have HB5:=aa HB4.out.drew
   have V35:Hid (∀ad,a=some ad->∀j u,vs[j]? = some u->(World.drew w4).cell? (ad.add j)=some u):=fun ad h j u hu=>V3.out ad h j u hu
   have V55:=aa (V5.out.below aq.keeps ((Below.refl _ w4).drew))
   have HRL5:=aa (aq.keeps _ _ _ _ ((Below.refl _ w4).drew) HRL.out)
   generalize World.drew w4=w5 at *
   clear hrw HB4 V3 V5 HRL
   refine aM 0 (.slice a n c) rfl kr kr kr kr (fun _ _ _ h=>h) rfl (fun _ _=>rfl) hx3 ?_
   simp only[Act.put,zA]
   refine aM 1 (.slice a n c) rfl kr kr kr kr (fun _ _ _ h=>h) rfl (fun _ _=>rfl) hx3 ?_
   simp only[Act.put]
   refine aM 2 (.int .i64 n) rfl kr kr kr kr (fun _ _ _ h=>h) rfl (fun _ _ => ?y2) hx3 ?_
   case y2=>(go_simp;try rfl)
   simp only[Act.put]
   refine aM 3 (.slice a n c) rfl kr kr kr kr (fun _ _ _ h=>h) rfl (fun _ _=>rfl) hx3 ?_
   simp only[Act.put]
   refine aM 4 (.int .i64 n) rfl kr kr kr kr (fun _ _ _ h=>h) rfl (fun _ _ => ?y4) hx3 ?_
   case y4=>(go_simp;try rfl)
   simp only[Act.put]
   refine aM 5 (.slice a n n) rfl kr kr kr kr (fun _ _ _ h=>h) rfl (fun _ _=>tb (.tmp 49) (.tmp 51) (.tmp 53) kr a n c kr kr kr hnc V2.out) hx3 ?_
   simp only[Act.put]
   refine eL 6 (.agg (ah x va dn vc).toArray) rfl (fun W hW=>aH 50 (.tmp 8) kr X 0 kr (ah x va dn vc) _ (ac.range hW) Tryz.underlying50 rfl (gL HPX.out va dn vc)) hx3 ?_
   simp only[Act.put]
   refine aC 7 kr rfl rfl ?_
   refine aO _ (gW (.tmp 55) kr x HPX.out va dn vc kr) ?_
   simp only[Act.put]
   have hBc:=(Below.refl _ w5).alloc (Nat.le_refl _) (.cells (ah x va dn vc).toArray 50)
   refine⟨.inr (ac.alloc hx3 _),?_⟩
   obtain⟨z37,hi37,hz37,hs37⟩:∃i:TypeInfo,Tryz.prog.info? 50=some i/\i.zero=some (.agg zH)/\i.size=35:=by
    have h:=(by kernel_rfl:(Tryz.prog.info? 50).map (fun i=>(i.zero,i.size))=some (some (.agg zH),35))
    cases hq:Tryz.prog.info? 50 with
    | none=>rw[hq]at h;cases h
    | some i=>rw[hq]at h;simp only[Option.map_some,Option.some.injEq,Prod.mk.injEq]at h;exact⟨i,rfl,h.1,h.2⟩
   have hby:z37.bytes<=1000:=by
    have h:=(by kernel_rfl:(Tryz.prog.info? 50).map (fun i=>decide (i.bytes<=1000))=some true)
    rw[hi37]at h
    simpa using h
   have H37:=aa hi37
   have hb48:(n+1)*z37.bytes<=140737488355328:=by
    have h1:=HNN.out
    have h2:=Nat.mul_le_mul (show n+1<=1025 by omega) hby
    omega
   clear hi37 hby
   refine aC 8 kr rfl rfl ?_
   refine oo _ (.tmp 54) (.tmp 56) 30 kr 50 z37 (.agg zH) 35 z37.bytes Tryz.underlying30 H37.out hz37 hs37 rfl rfl (by decide) a n n vs kr (fun h=>⟨V2.out h,V2.out h⟩) V1.out (fun ad had j u hu=>ag hBc (V35.out ad had j u hu)) ⟨w5.heap.size,0,none⟩ 1 1 (ah x va dn vc) kr (by rw[bh HPX.out]) (fun j u hu => ?c1) (by have:=bM x va dn vc;simpa using this) om (by have:=HNN.out;unfold maxLen;omega) hb48 ?_
   case c1 =>
    rw[Addr.add_lit,Nat.zero_add,dz _ _ rfl]
    simpa using hu
   intro v9 w9 hown9 hg9
   obtain⟨va9,vc9,rfl⟩:=ft hown9
   have hx9:ac w9 X 50 (ah x va dn vc):=bx (ac.alloc hx3 _) hg9 (by simp)
   have hBg:Below w5.heap.size w5 w9:=hBc.grown hg9 (by simp) (fun q hq=>by cases hq)
   have hB9:=HB5.out.trans (hBg.mono HB5.out.size)
   obtain⟨q1,q2⟩:=eB (by decide) hown9 (l++[x]) (by rw[List.length_append,HL.out];rfl) ((V55.out.below aq.keeps hBg).snoc (bh HPX.out va dn vc) (aq.keeps _ _ _ _ hBg HRL5.out))
   have Q2:=aa q2
   have HB9:=aa hB9
   clear hown9 hg9 hBg hBc hx3 hB9 q2 hb48
   refine⟨.inr hx9,?_⟩
   simp only[Act.put]
   refine aC 9 kr rfl rfl ?_
   refine aO (w':=w9) (.slice va9 (n+1) vc9) kr ?_
   refine⟨.inr hx9,?_⟩
   simp only[zD,zE,zF,Act.put]
   refine aC 10 kr rfl rfl ?_
   refine aO (w':=w9) (.int .i64 0) kr ?_
   refine⟨.inr hx9,?_⟩
   simp only[zD,zE,zF,Act.put]
   refine cV kr ?_
   clear hx9
   go_wp2
   refine bodyPost_ret (by simp[results,Tryz.results34,go_sem];try rfl) rfl ?_
   exact⟨⟨va9,n+1,vc9,by rw[HX.out],q1,by rw[HX.out,<-HX1.out];exact Q2.out⟩,HB9.out⟩
  ·have HX:Hid (r=([],1)):=by rw[Hid,HR.out,cN,if_neg (by rw[<-K1.out];simp),if_pos HBAD.out.symm]
   go_wp2
   refine bodyPost_ret (by simp[results,Tryz.results34,go_sem];try rfl) rfl ?_
   exact⟨kB _ HX.out,hB1⟩
theorem xi {w:World}{a:Option Addr}{n:Nat}{l:List ar}(h:Sl 35 aq w a n l)(hd:∀x ∈ l,x.data.length<=100000):(kX l).length<=200000:=by
 unfold kX
 cases hl:l.getLast? with
 | none=>simp
 | some x =>
  have hx:=List.mem_of_getLast? hl
  obtain⟨i,hi⟩:=List.getElem?_of_mem hx
  obtain⟨h1,h2⟩:=nB h hi
  rcases h.2 with h0|⟨b,off,_,hc⟩
  ·have:=(List.getElem?_eq_some_iff.1 hi).1;rw[h.1]at this;omega
  ·obtain⟨L,_,⟨_,_,_,_,hp,_⟩,_⟩:=hc i x hi
   exact gJ x h1 h2 hp (hd x hx)
theorem ze (l:List ar):(aw (nC l)).size<=1000:=by
 unfold nC
 cases l.getLast? with
 | none=>show (aw qF).size<=1000;decide
 | some x=>show (aw oh).size<=1000;decide
theorem rL (a:Option Addr)(n c:Nat)(l:List ar)(w:World)(hn:n<=100000)(h:Sl 35 aq w a n l)(hd:∀x ∈ l,x.data.length<=100000) :
  Calls Tryz.prog 75 #[.slice a n c] w fun e w'=>e=.returned (br (bR l))/\Below w.heap.size w w':=by
 have hel:=xi h hd
 have htl:=ze l
 obtain⟨T,hT⟩:∃q,nC l=q:=⟨_,rfl⟩
 obtain⟨E,hE⟩:∃q,kX l=q:=⟨_,rfl⟩
 have HX:Hid (br (bR l)=br (ik T E)):=by rw[Hid,uN,hT,hE]
 rw[hE]at hel
 rw[hT]at htl
 have H:=aa h
 have HDL:=aa hd
 have HT:=aa hT
 have HE:=aa hE
 clear h hd hT hE
 go_enter Tryz.func75,Tryz.ntmps75
 go_upto_region 1 with (fail)
 obtain⟨D0,hD0⟩:=zg w.heap.size
 obtain⟨w1,hw1⟩:=zg (w.alloc (.cells zI 48))
 rw[<-hw1,<-hD0]
 have hd1:ac w1 D0 48 (af (List.replicate 32 0)):=by rw[hw1,hD0];exact ak _ rfl
 have hB1:Below w.heap.size w w1:=by rw[hw1];exact(Below.refl _ w).alloc (Nat.le_refl _) _
 have hz1:=hB1.size
 have HC:=aa (zd a n c l T E HT.out HE.out w1 hn (H.out.below aq.keeps hB1) HDL.out)
 have HD1:=aa hd1
 have HD0:=aa hD0
 clear hw1 hD0 hd1
 go_wp2_with fail
 refine HC.out.mono ?_
 rintro e w2 ⟨⟨va,vc,rfl,hs2⟩,hB2⟩
 have hb2:=hB1.trans (hB2.mono hz1)
 have HD2:=aa (HD1.out.below hB2 HD1.out.lt)
 obtain⟨D2,hD2,hdv2,hi2,ho2,hs2'⟩:=ez (ik T E) (kL _ _)
 have HC2:=aa (uL (aw T) va E.length vc E w2 htl om hs2)
 rw[show (aw T).data.toList=T from rfl]at HC2
 rw[hdv2]at HC2
 have HV2:=aa hdv2
 have HI2:=aa hi2
 have HO2:=aa ho2
 have HS2:=aa hs2'
 have HD2':=aa hD2
 clear hs2 hB2 HD1 hdv2 hi2 ho2 hs2' hD2 HC
 go_wp2_with fail
 refine HC2.out.mono ?_
 rintro e w3 ⟨rfl,hB3⟩
 have hb3:=hb2.trans (hB3.mono hb2.size)
 have HD3:=aa (HD2.out.below hB3 HD2.out.lt)
 clear hB3 HC2 HD2
 go_wp2_with (refine wpList_store_row rfl 48 (.tmp 2) (.tmp 12) rfl D0 D2 ?e1 ?e2 48 _ HD3.out HI2.out ?e3 HO2.out ?_;(case e1=>rfl);(case e2=>rfl);(case e3=>(rw[HS2.out];simp[af])))
 refine bodyPost_ret (results_cell_row rfl _ _ D0 48 D2 (0,0) _ rfl (setRow_heap _ _ _ _ _ _ HD3.out) Tryz.underlying48 rfl HI2.out) rfl ?_
 exact⟨by rw[HX.out,HV2.out],below_setRow hb3 (by rw[HD0.out];exact Nat.le_refl _) _⟩
end Go.Proofs.YtmflnpdmlfmcpaaGreatDoor.Dr
