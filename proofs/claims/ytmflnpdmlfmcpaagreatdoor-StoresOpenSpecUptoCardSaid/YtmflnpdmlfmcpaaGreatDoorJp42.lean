/- Joined texts. -/
import Derived.Test.YtmflnpdmlfmcpaaGreatDoorJp40
import Derived.Test.YtmflnpdmlfmcpaaGreatDoorJp37
set_option maxRecDepth 100000
set_option maxHeartbeats 8000000
namespace Go.Proofs.YtmflnpdmlfmcpaaGreatDoor.Dr
open Go.RowKit Go.Shelf
def fo (x:ar):List UInt8:=aL (cM x)
def cm (l:List ar)(node:Int)(d:List UInt8):ar:=⟨node,l.length,bR l,d⟩
def bE (j:am)(l:List ar)(node:Int)(d:List UInt8):am × List ar × Int:=
 if j.check=0 then
  if (aQ j.recs).2=0 then
   if cT (aQ j.recs).1 l=true then
    if (cN l node d).2=0 then
     if (bu j (fo (cm l node d))).2=0 then ((bu j (fo (cm l node d))).1,(cN l node d).1,0) else (.zero,[],(bu j (fo (cm l node d))).2)
    else (.zero,[],(cN l node d).2)
   else (.zero,[],500)
  else (.zero,[],(aQ j.recs).2)
 else (.zero,[],j.check)
theorem nL {j:am}(h:j.okB=true):j.check=0:=by rw[am.check,if_pos h]
theorem se {j:am}(h:j.check=0):j.okB=true:=by
 unfold am.check at h
 split at h
 ·assumption
 ·cases h
theorem l6 {l:List ar}{node:Int}{d:List UInt8}(h:(cN l node d).2=0):bz l=0/\ep l node d=false/\l.length<1024/\cN l node d=(l++[cm l node d],0):=by
 have h0:bz l=0:=by
  by_cases h1:bz l=0
  ·exact h1
  ·rw[cN,if_pos h1]at h
   exact absurd h h1
 have hb:ep l node d=false:=by
  cases h2:ep l node d
  ·rfl
  ·rw[zb h0 h2]at h
   cases h
 have hl:l.length≠1024:=fun h3=>by
  rw[cN,if_neg (by rw[h0];simp),if_neg (by rw[hb];simp),if_pos h3]at h
  cases h
 exact⟨h0,hb,by have:=(eZ.1 h0).1;omega,mu h0 hb hl⟩
theorem zQ {l:List ar}{node:Int}{d:List UInt8}(h1:0<=node)(h2:node<24)(hl:l.length<1024)(hd:d.length<=65536):aP (fo (cm l node d))=some (cm l node d):=
 sI (x:=cm l node d) ⟨by show -9223372036854775808<=node;omega,by show node<=9223372036854775807;omega⟩ ⟨by show -9223372036854775808<=(l.length:Int);omega,by show (l.length:Int)<=9223372036854775807;omega⟩ (dI l) (by show d.length<_;omega)
structure fN (S sy:Nat)(j:am)(l:List ar):Prop where
 ok:j.okB=true
 many:j.many=S
 synced:j.synced=sy
 kept:aQ j.recs=(l,0)
theorem fN.len {S sy:Nat}{j:am}{l:List ar}(h:fN S sy j l):l.length=j.recs.length:=xK h.kept
theorem fN.check {S sy:Nat}{j:am}{l:List ar}(h:fN S sy j l):bz l=0:=(k8 h.kept).2
theorem jN {j:am}{l:List ar}{node:Int}{d:List UInt8}(h:(bE j l node d).2.2=0):j.okB=true/\aQ j.recs=(l,0)/\ep l node d=false/\bE j l node d=(⟨j.recs++[fo (cm l node d)],j.many,j.synced⟩,l++[cm l node d],0)/\(⟨j.recs++[fo (cm l node d)],j.many,j.synced⟩:am).okB=true/\aQ (j.recs++[fo (cm l node d)])=(l++[cm l node d],0):=by
 unfold bE at h ⊢
 split at h
 rotate_left
 ·exact absurd h (by assumption)
 next h1 =>
 split at h
 rotate_left
 ·exact absurd h (by assumption)
 next h2 =>
 split at h
 rotate_left
 ·cases h
 next h3 =>
 split at h
 rotate_left
 ·exact absurd h (by assumption)
 next h4 =>
 split at h
 rotate_left
 ·exact absurd h (by assumption)
 next h5 =>
 have hk:aQ j.recs=(l,0):=Prod.ext (nz h3) h2
 obtain⟨a1,a2,a3,a4⟩:=l6 h4
 have hok:=se h1
 obtain⟨b1,b2,b3,b4⟩:=iQ a2
 rcases ib (fo (cm l node d)) hok with ⟨c1,c2,_⟩|⟨c1,_⟩
 ·refine⟨hok,hk,a2,?_,c2,ve hk (zQ b1 b2 a3 b4) (sR a1 a2 a3)⟩
  rw[if_pos h1,if_pos h2,if_pos h3,if_pos h4,if_pos h5,c1,a4]
 ·rw[c1]at h5;cases h5
theorem qh {j:am}{l:List ar}{node:Int}{d:List UInt8}(h:(bE j l node d).2.2≠0):(bE j l node d).1=.zero/\(bE j l node d).2.1=[]:=by
 unfold bE at h ⊢
 repeat' split
 all_goals first|exact⟨rfl,rfl⟩|skip
 next h1 h2 h3 h4 h5=>rw[if_pos h1,if_pos h2,if_pos h3,if_pos h4,if_pos h5]at h;exact absurd rfl h
theorem fN.write {S sy:Nat}{j:am}{l:List ar}{node:Int}{d:List UInt8}(h:fN S sy j l)(h1:0<=node)(h2:node<24)(h3:∀x,l[0]? = some x->x.node=node)(h4:d.length<=65536) :
  (bE j l node d=(⟨j.recs++[fo (cm l node d)],j.many,j.synced⟩,l++[cm l node d],0)/\fN S sy ⟨j.recs++[fo (cm l node d)],j.many,j.synced⟩ (l++[cm l node d]))\/bE j l node d=(.zero,[],2):=by
 by_cases h0:(bE j l node d).2.2=0
 ·obtain⟨a1,a2,a3,a4,a5,a6⟩:=jN h0
  exact .inl ⟨a4,a5,h.many,h.synced,a6⟩
 ·refine .inr ?_
  have hb:=AX h1 h2 h3 h4
  unfold bE at h0 ⊢
  rw[if_pos (nL h.ok),if_pos (by rw[h.kept]),if_pos (by rw[h.kept];exact g6 l)]at h0 ⊢
  by_cases hl:l.length=1024
  ·have ha:cN l node d=([],2):=by rw[cN,if_neg (by rw[h.check];simp),if_neg (by rw[hb];simp),if_pos hl]
   rw[if_neg (by rw[ha];simp),ha]
  ·have ha:=mu h.check hb hl
   rw[if_pos (by rw[ha])]at h0 ⊢
   rcases ib (fo (cm l node d)) h.ok with ⟨c1,c2,_⟩|⟨c1,_⟩
   ·rw[c1,if_pos rfl]at h0
    exact absurd rfl h0
   ·rw[if_neg (by rw[c1];simp),c1]
theorem fN.node {_S _sy:Nat}{_j:am}{l:List ar}{node:Int}{d:List UInt8}(h3:∀x,l[0]? = some x->x.node=node):∀x,(l++[cm l node d])[0]? = some x->x.node=node:=fun x hx=>by
 cases l with
 | nil=>simp at hx;subst hx;rfl
 | cons y l=>exact h3 x (by simpa using hx)
theorem m7 : ∀(rs:List (List UInt8)) (l:List ar) (k:Nat),aK rs=(l,true)->aK (rs.take k)=(l.take k,true)
 | [],l,k,h=>by cases h;simp[aK]
 | r::rs,l,0,h=>by simp[aK]
 | r::rs,l,k+1,h=>by
  rw[ef]at h
  rw[List.take_succ_cons,ef]
  cases hr:aP r with
  | none=>rw[hr]at h;cases h
  | some y =>
   rw[hr]at h
   simp only[Prod.mk.injEq]at h
   obtain⟨rfl,h2⟩:=h
   rw[m7 rs (aK rs).1 k (Prod.ext rfl h2)]
   rfl
theorem vj {rs:List (List UInt8)}{l:List ar}(h:aQ rs=(l,0))(k:Nat):aQ (rs.take k)=(l.take k,0):=by
 obtain⟨h1,h2⟩:=k8 h
 exact nI (m7 rs l k h1) (sQ h2 k)
theorem zR {d:aj}{j:am}{l:List ar}(h:ci d=(j,0))(hk:aQ j.recs=(l,0)):eS d=(j,l,0):=by
 unfold eS
 rw[h,if_pos rfl,hk,if_pos rfl]
theorem zS {j:am}{l:List ar}(h:j.okB=true)(hk:aQ j.recs=(l,0))(d:aj):iE j d=cC j d:=by
 unfold iE
 rw[if_pos (nL h),hk,if_pos rfl]
def mx (Nz:Nat)(e:Ending)(w:World)(r:am × List ar × Int):Prop:=∃a n c va vn vc,e=.returned (.tuple #[.agg #[.slice a n c,.int .i64 r.1.many,.int .i64 r.1.synced],.slice va vn vc,.int .i64 r.2.2])/\cg Nz w a n c r.1/\vn<=vc/\Sl 35 aq w va vn r.2.1
theorem fc {Nz:Nat}{r:am × List ar × Int}{k:Int}{w:World}(h:r=(.zero,[],k)):mx Nz (.returned (.tuple #[.agg #[.slice none 0 0,.int .i64 0,.int .i64 0],.slice none 0 0,.int .i64 k])) w r:=by
 subst h
 exact⟨none,0,0,none,0,0,rfl,iB w,Nat.le_refl _,Sl.nil _ _ _ _⟩
theorem iq {o:Oper}{act:Act}{W:World}(p q:Operand)(ho:o.op=.indexAddr 30 p q)(b off n c k:Nat)(hp:act.eval p=.slice (some ⟨b,off,none⟩) n c)(hq:act.eval q=.int .i64 k)(hk:k<n) :
  (execOp act.eval o).run Tryz.prog W=.ok (.value (.pointer (some ⟨b,off+k*35,none⟩))) W:=by
 have h0:(0:Int)<=(k:Int):=om
 have h1:(k:Int)<(n:Int):=om
 unfold execOp
 simp only[ho,hp,hq]
 go_simp
theorem fg {o:Oper}{a:Act}{W:World}(x:Operand)(ho:o.op=.load 24 x)(X:Nat)(hx:a.eval x=.pointer (some ⟨X,0,none⟩)){v0 v1 v2:Value}(hc:ac W X 24 [v0,v1,v2]):(execOp a.eval o).run Tryz.prog W=.ok (.value (.agg #[v0,v1,v2])) W:=by
 obtain⟨_,f0,f1,f2,_,_,_⟩:=aJ (Below.refl _ W) hc
 unfold execOp
 simp only[ho,hx]
 go_simp
theorem m8 {o:Oper}{a:Act}{W:World}(x:Operand)(ho:o.op=.binOp .sub 3 x (.const (.int .i64 1)) 3)(k:Nat)(hx:a.eval x=.int .i64 ((k+1:Nat):Int))(hk:k<=100000):(execOp a.eval o).run Tryz.prog W=.ok (.value (.int .i64 (k:Int))) W:=by
 have hq:a.eval (.const (.int .i64 1))=.int .i64 1:=rfl
 unfold execOp
 simp only[ho,hx,hq]
 have e:IntKind.i64.wrap (((k+1:Nat):Int)-1)=(k:Int):=by
  rw[show (((k+1:Nat):Int)-1)=(k:Int) by omega]
  rw[IntKind.wrap_i64];omega
 have e2:IntKind.i64.wrap (k:Int)=(k:Int):=by rw[IntKind.wrap_i64];omega
 go_simp
 try simp only[e2]
theorem vv {w w':World}{a:Option Addr}{n X:Nat}{t:TypeId}{vs:List Value}{b:List UInt8}(h:Sl 1 ai w a n b)(ho:cU X w w')(hx:ac w X t vs)(hv:∀v ∈ vs,∀k,v ≠ .int .u8 k):Sl 1 ai w' a n b:=by
 refine⟨h.1,?_⟩
 rcases h.2 with h0|⟨g,off,ha,hc⟩
 ·exact .inl h0
 ·refine .inr ⟨g,off,ha,fun i x hi => ?_⟩
  obtain⟨us,h1,h2,h3⟩:=hc i x hi
  refine⟨us,h1,h2,fun j v hj => ?_⟩
  have hcell:=h3 j v hj
  have hg:g≠X:=by
   rintro rfl
   have hb:us=[.int .u8 x.toNat]:=h2
   subst hb
   match j,hj with
   | 0,hj =>
    cases hj
    unfold ac at hx
    rw[World.cell?]at hcell
    simp only[hx]at hcell
    have hm:Value.int .u8 (x.toNat:Int) ∈ vs:=by
     have:=List.mem_of_getElem? (l:=vs) (i:=off+i*1+0) (a:=Value.int .u8 (x.toNat:Int)) (by simpa using hcell)
     exact this
    exact hv _ hm _ rfl
  rw[<-hcell]
  unfold World.cell?
  rw[ho g hg]
theorem fd {w w':World}{a:Option Addr}{n X:Nat}{t:TypeId}{vs:List Value}{l:List ar}(h:Sl 35 aq w a n l)(ho:cU X w w')(hx:ac w X t vs)(hv:∀v ∈ vs,∀k,v ≠ .int .u8 k):Sl 35 aq w' a n l:=by
 refine⟨h.1,?_⟩
 rcases h.2 with h0|⟨g,off,ha,hc⟩
 ·exact .inl h0
 ·refine .inr ⟨g,off,ha,fun i x hi => ?_⟩
  obtain⟨us,h1,⟨da,dn,dc,rfl,hp,k1,k2,k3,hs⟩,h3⟩:=hc i x hi
  refine⟨_,h1,⟨da,dn,dc,rfl,hp,k1,k2,k3,vv hs ho hx hv⟩,fun j v hj => ?_⟩
  have hg:g≠X:=by
   rintro rfl
   obtain⟨u,hu⟩:∃u,x.prev[0]? = some u:=⟨_,List.getElem?_eq_getElem om⟩
   have hb:=cd hu
   have h2:(ah x da dn dc)[2]? = some (.int .u8 u.toNat):=by
    unfold ah
    rw[List.getElem?_cons_succ,List.getElem?_cons_succ,List.getElem?_append_left (List.getElem?_eq_some_iff.1 hb).1]
    exact hb
   have hcell:=h3 2 _ h2
   unfold ac at hx
   rw[World.cell?]at hcell
   simp only[hx]at hcell
   have hm:=List.mem_of_getElem? (l:=vs) (i:=off+i*35+2) (a:=Value.int .u8 (u.toNat:Int)) (by simpa using hcell)
   exact hv _ hm _ rfl
  have:=h3 j v hj
  rw[<-this]
  unfold World.cell?
  rw[ho g hg]
theorem jP {p q:Int}{a:Option Addr}{n c:Nat}:∀v ∈ ([.slice a n c,.int .i64 p,.int .i64 q]:List Value),∀k,v ≠ .int .u8 k:=by
 intro v hv k
 simp only[List.mem_cons,List.not_mem_nil,or_false]at hv
 rcases hv with rfl|rfl|rfl<;>intro h<;>cases h
theorem m9 (rs:List (List UInt8)):(aQ rs).1.length<=rs.length:=by
 unfold aQ
 split
 ·exact iP rs
 ·simp
theorem qq (x:ar)(h1:bQ x.node)(h2:bQ x.no)(hp:x.prev.length=32)(hd:x.data.length<=65536):(aL (cM x)).length<=100000:=by
 have q:∀n:Int,bQ n->(cB (eA n)).length<=10:=fun n h=>cH (by unfold eA;obtain⟨a,b⟩:=h;split<;>omega)
 have q1:=q _ h1
 have q2:=q _ h2
 have q3:=cH (show x.data.length<18446744073709551616 by omega)
 have q4:=cH (show x.prev.length<18446744073709551616 by omega)
 have q5:(cB (0+1+1+1+1)).length<=10:=cH om
 simp only[cM,aL,bP,List.length_cons,List.length_append,List.length_nil]
 omega
theorem zU {w:World}{b off X:Nat}{t:TypeId}{x:ar}{da:Option Addr}{dn dc:Nat}{vs:List Value}(h:w.rangeAt b off (ah x da dn dc))(hp:x.prev.length=32)(hx:ac w X t vs)(hv:∀v ∈ vs,∀k,v ≠ .int .u8 k):b≠X:=by
 rintro rfl
 obtain⟨u,hu⟩:∃u,x.prev[0]? = some u:=⟨_,List.getElem?_eq_getElem om⟩
 have hb:=cd hu
 have h2:(ah x da dn dc)[2]? = some (.int .u8 u.toNat):=by
  unfold ah
  rw[List.getElem?_cons_succ,List.getElem?_cons_succ,List.getElem?_append_left (List.getElem?_eq_some_iff.1 hb).1]
  exact hb
 have hcell:=h 2 _ h2
 unfold ac at hx
 rw[World.cell?]at hcell
 simp only[hx]at hcell
 have hm:=List.mem_of_getElem? (l:=vs) (i:=off+2) (a:=Value.int .u8 (u.toNat:Int)) (by simpa using hcell)
 exact hv _ hm _ rfl
theorem oZ {Nz:Nat}(a:Option Addr)(n c:Nat)(j:am)(la:Option Addr)(ln lc:Nat)(l:List ar)(node:Int)(da:Option Addr)(dn dc:Nat)(d:List UInt8)(w:World)(hNz:Nz<=w.heap.size)(hi:dV w)(h:cg Nz w a n c j)
  (hln:ln<=100000) (hlc:ln<=lc) (hl:Sl 35 aq w la ln l) (hld:∀x ∈ l,x.data.length<=100000) (hI:bQ node) (hdn:dn<=1000000) (hs:Sl 1 ai w da dn d) :
  Calls Tryz.prog 14 #[.agg #[.slice a n c,.int .i64 j.many,.int .i64 j.synced],.slice la ln lc,.int .i64 node,.slice da dn dc] w fun e w'=>mx Nz e w' (bE j l node d)/\Below w.heap.size w w':=by
 have HI:=aa hi
 have H:=aa h
 have HNZ:=aa hNz
 have HLS:=aa hl
 have HC:Hid (∀W,Below w.heap.size w W->Calls Tryz.prog 27 #[.agg #[.slice a n c,.int .i64 j.many,.int .i64 j.synced]] W fun e w'=>e=.returned (.int .i64 j.check)/\Below W.heap.size W w'):=fun W hW=>iL a n c j W (h.below hW)
 have HK:Hid (∀W,Below w.heap.size w W->Calls Tryz.prog 24 #[.agg #[.slice a n c,.int .i64 j.many,.int .i64 j.synced]] W fun e w'=>mw W.heap.size e w' (aQ j.recs)/\Below W.heap.size W w'):=fun W hW=>nH a n c j.many j.synced j.recs W (by have:=h.m;omega) (hi.below hW) (ic (h.below hW).recs) h.s
 have HE:Hid (∀W va vn vc,Below w.heap.size w W->vn<=100000->Sl 35 aq W va vn (aQ j.recs).1->Calls Tryz.prog 32 #[.slice va vn vc,.slice la ln lc,.func (.func 33) #[] #[]] W fun e w'=>e=.returned (.bool (cT (aQ j.recs).1 l))/\Below W.heap.size W w'):=fun W va vn vc hW hvn hv=>vu va vn vc _ la ln lc l W hvn hln hv (hl.below aq.keeps hW)
 have HA:Hid (∀W,Below w.heap.size w W->Calls Tryz.prog 34 #[.slice la ln lc,.int .i64 node,.slice da dn dc] W fun e w'=>jL e w' (cN l node d)/\Below W.heap.size W w'):=fun W hW=>Bc la ln lc l node da dn dc d W hln hlc (hi.below hW) (hl.below aq.keeps hW) hld hI hdn (hs.below ai.keeps hW)
 have HP:Hid (∀W ba bn bc b,Below w.heap.size w W->j.okB=true->bn<=100000->aN Nz W [.slice ba bn bc] b->Calls Tryz.prog 17 #[.agg #[.slice a n c,.int .i64 j.many,.int .i64 j.synced],.slice ba bn bc] W fun e w'=>eW Nz e w' (bu j b).1 (bu j b).2/\Below W.heap.size W w'):=fun W ba bn bc b hW hok hbn hb=>Go.Proofs.YtmflnpdmlfmcpaaGreatDoor.append_any a n c j ba bn bc b W (Nat.le_trans hNz hW.size) (by have:=A9 hok;have:=h.recs.len;omega) hbn (h.below hW) hb
 have HKL:Hid ((aQ j.recs).1.length<=100000):=Nat.le_trans (m9 j.recs) (by have:=h.m;have:=h.recs.len;omega)
 have HSW:Hid ((bE j l node d).2.2=0->j.okB=true):=fun q=>(jN q).1
 have HOK:Hid (j.check=0->j.okB=true):=se
 obtain⟨jm,hjm⟩:=zg j.many
 obtain⟨js,hjs⟩:=zg j.synced
 obtain⟨ck,hck⟩:=zg j.check
 obtain⟨kk,hkk⟩:=zg (aQ j.recs)
 obtain⟨sm,hsm⟩:=zg (cT (aQ j.recs).1 l)
 obtain⟨q,hq⟩:=zg (cN l node d)
 obtain⟨p,hp⟩:=zg (bu j (fo (cm l node d)))
 obtain⟨r,hr⟩:=zg (bE j l node d)
 have HR:Hid (r=if ck=0 then (if kk.2=0 then (if sm=true then (if q.2=0 then (if p.2=0 then (p.1,q.1,0) else (.zero,[],p.2)) else (.zero,[],q.2)) else (.zero,[],500)) else (.zero,[],kk.2)) else (.zero,[],ck)):=by rw[hr,hck,hkk,hsm,hq,hp];exact rfl
 have HQ:Hid (q.2=0->0<=node/\node<24/\l.length<1024/\d.length<=65536/\q=(l++[cm l node d],0)):=fun h0=>by
  rw[hq]at h0 ⊢
  obtain⟨a1,a2,a3,a4⟩:=l6 h0
  obtain⟨b1,b2,b3,b4⟩:=iQ a2
  exact⟨b1,b2,a3,b4,a4⟩
 have HPQ:=aa hp
 rw[<-hsm]at HE
 rw[<-hjm,<-hjs,<-hck]at HC
 rw[<-hck]at HOK
 rw[<-hjm,<-hjs,<-hkk]at HK
 rw[<-hkk]at HKL HE
 rw[<-hq]at HA
 rw[<-hjm,<-hjs]at HP
 rw[<-hjm,<-hjs,<-hr]
 have HJM:=aa hjm
 have HJS:=aa hjs
 clear hjm hjs hck hkk hsm hq hr hp hi hl hld hI h hs hNz H HSW
 go_enter Tryz.func14,Tryz.ntmps14
 go_upto_region 1 with (fail)
 obtain⟨w1,hw1⟩:=zg ((w.alloc (.cells #[.slice a n c,.int .i64 jm,.int .i64 js] 24)).alloc (.cells #[.slice none 0 0,.int .i64 0,.int .i64 0] 24))
 obtain⟨X4,hX4⟩:=zg w.heap.size
 obtain⟨X8,hX8⟩:=zg (w.heap.size+1)
 rw[<-hw1,<-hX8,<-hX4]
 have hB1:Below w.heap.size w w1:=by rw[hw1];exact((Below.refl _ w).alloc (Nat.le_refl _) _).alloc (by simp) _
 have h4:ac w1 X4 24 [.slice a n c,.int .i64 jm,.int .i64 js]:=by rw[hw1,hX4];exact aB _ (ak _ rfl)
 have h8:ac w1 X8 24 [.slice none 0 0,.int .i64 0,.int .i64 0]:=by rw[hw1,hX8];exact ak _ (by simp)
 have HX:Hid (w.heap.size<=X8/\X4≠X8):=by show _/\_;omega
 have hne:X4≠X8:=HX.out.2
 clear hw1 hX4 hX8
 obtain⟨_,b0,b1,b2,_,_,_⟩:=aJ (Below.refl _ w1) h4
 have HB1:=aa hB1
 have H4:=aa h4
 have H8:=aa h8
 clear hB1 h4 h8
 go_wp2_with fail
 refine(HC.out w1 HB1.out).mono ?_
 rintro e w2 ⟨rfl,hB2⟩
 have h4:=H4.out.below hB2 H4.out.lt
 have h8:=H8.out.below hB2 H8.out.lt
 have HB2:Hid (Below w.heap.size w w2):=HB1.out.trans (hB2.mono HB1.out.size)
 clear HC H4 H8 HB1 hB2 b0 b1 b2
 obtain⟨_,b0,b1,b2,_,_,_⟩:=aJ (Below.refl _ w2) h4
 obtain⟨_,f0,f1,f2,v8,y8⟩:=aJ (Below.refl _ w2) h8
 have H4:=aa h4
 have H8:=aa h8
 clear h4 h8
 by_cases hc0:ck=0
 rotate_left
 ·have e1:(ck == 0)=false:=by simpa using hc0
  have e1':(ck != 0)=true:=by simpa using hc0
  have HRR:Hid (r=(.zero,[],ck)):=by rw[Hid,HR.out,if_neg hc0]
  clear hc0 HR HK HE HA HP
  go_wp2_with fail
  obtain⟨wF,hwF⟩:=zg ((((w2.setCell ⟨X8,0,none⟩ (.slice none 0 0)).setCell ⟨X8,1,none⟩ (.int .i64 0)).setCell ⟨X8,2,none⟩ (.int .i64 0)))
  have hF8:ac wF X8 24 [.slice none 0 0,.int .i64 0,.int .i64 0]:=by rw[hwF];exact bX H8.out _ _ _
  have hFB:Below w.heap.size w wF:=by rw[hwF];exact aY HB2.out HX.out.1 _ _ _
  rw[<-hwF]
  clear hwF b0 b1 b2 f0 f1 f2 v8 y8
  obtain⟨_,f0,f1,f2,_,_,_⟩:=aJ (Below.refl _ wF) hF8
  refine bodyPost_ret (by simp[results,Tryz.results14,go_sem,f0,f1,f2];try rfl) rfl ?_
  exact⟨fc HRR.out,hFB⟩
 have e1:(ck == 0)=true:=by simpa using hc0
 have e1':(ck != 0)=false:=by simpa using hc0
 have HOKB:Hid (j.okB=true):=HOK.out hc0
 have HR2:Hid (r=if kk.2=0 then (if sm=true then (if q.2=0 then (if p.2=0 then (p.1,q.1,0) else (.zero,[],p.2)) else (.zero,[],q.2)) else (.zero,[],500)) else (.zero,[],kk.2)):=by rw[Hid,HR.out,if_pos hc0]
 clear hc0 HR HOK
 go_wp2_with fail
 refine(HK.out w2 HB2.out).mono ?_
 obtain⟨kl,ke⟩:=kk
 rintro e w3 ⟨⟨va,vn,vc,us,rfl,hown,hfl⟩,hB3⟩
 simp only at hfl
 have hvl:=jl.len hown hfl
 obtain⟨hvc,hsl⟩:=eB (by decide) hown kl hvl.symm (iD hfl)
 have HSLK:=aa hsl
 have HVN:Hid (vn<=100000):=by have:=HKL.out;simp only at this;show _<=_;omega
 have h4:=H4.out.below hB3 H4.out.lt
 have h8:=H8.out.below hB3 H8.out.lt
 have HB3:Hid (Below w.heap.size w w3):=HB2.out.trans (hB3.mono HB2.out.size)
 clear HK H4 H8 HB2 hB3 b0 b1 b2 f0 f1 f2 v8 y8 hown hfl hvl hvc hsl HKL
 simp only at HR2 HE
 obtain⟨_,b0,b1,b2,_,_,_⟩:=aJ (Below.refl _ w3) h4
 obtain⟨_,f0,f1,f2,v8,y8⟩:=aJ (Below.refl _ w3) h8
 have H4:=aa h4
 have H8:=aa h8
 clear h4 h8
 by_cases hk0:ke=0
 rotate_left
 ·have k1:(ke == 0)=false:=by simpa using hk0
  have k1':(ke != 0)=true:=by simpa using hk0
  have HRR:Hid (r=(.zero,[],ke)):=by rw[Hid,HR2.out,if_neg hk0]
  clear hk0 HR2 HE HA HP
  go_wp2_with fail
  obtain⟨wF,hwF⟩:=zg ((((w3.setCell ⟨X8,0,none⟩ (.slice none 0 0)).setCell ⟨X8,1,none⟩ (.int .i64 0)).setCell ⟨X8,2,none⟩ (.int .i64 0)))
  have hF8:ac wF X8 24 [.slice none 0 0,.int .i64 0,.int .i64 0]:=by rw[hwF];exact bX H8.out _ _ _
  have hFB:Below w.heap.size w wF:=by rw[hwF];exact aY HB3.out HX.out.1 _ _ _
  rw[<-hwF]
  clear hwF b0 b1 b2 f0 f1 f2 v8 y8
  obtain⟨_,f0,f1,f2,_,_,_⟩:=aJ (Below.refl _ wF) hF8
  refine bodyPost_ret (by simp[results,Tryz.results14,go_sem,f0,f1,f2];try rfl) rfl ?_
  exact⟨fc HRR.out,hFB⟩
 have k1:(ke == 0)=true:=by simpa using hk0
 have k1':(ke != 0)=false:=by simpa using hk0
 have HR3:Hid (r=if sm=true then (if q.2=0 then (if p.2=0 then (p.1,q.1,0) else (.zero,[],p.2)) else (.zero,[],q.2)) else (.zero,[],500)):=by rw[Hid,HR2.out,if_pos hk0]
 clear hk0 HR2
 go_wp2_with fail
 refine(HE.out w3 va vn vc HB3.out HVN.out HSLK.out).mono ?_
 rintro e w4 ⟨rfl,hB4⟩
 have h4:=H4.out.below hB4 H4.out.lt
 have h8:=H8.out.below hB4 H8.out.lt
 have HB4:Hid (Below w.heap.size w w4):=HB3.out.trans (hB4.mono HB3.out.size)
 clear HE H4 H8 HB3 hB4 b0 b1 b2 f0 f1 f2 v8 y8 HSLK HVN
 obtain⟨_,b0,b1,b2,_,_,_⟩:=aJ (Below.refl _ w4) h4
 obtain⟨_,f0,f1,f2,v8,y8⟩:=aJ (Below.refl _ w4) h8
 have H4:=aa h4
 have H8:=aa h8
 clear h4 h8
 cases sm
 ·have HRR:Hid (r=(.zero,[],500)):=by rw[Hid,HR3.out,if_neg (by simp)]
  clear HR3 HA HP
  go_wp2_with fail
  obtain⟨wF,hwF⟩:=zg ((((w4.setCell ⟨X8,0,none⟩ (.slice none 0 0)).setCell ⟨X8,1,none⟩ (.int .i64 0)).setCell ⟨X8,2,none⟩ (.int .i64 0)))
  have hF8:ac wF X8 24 [.slice none 0 0,.int .i64 0,.int .i64 0]:=by rw[hwF];exact bX H8.out _ _ _
  have hFB:Below w.heap.size w wF:=by rw[hwF];exact aY HB4.out HX.out.1 _ _ _
  rw[<-hwF]
  clear hwF b0 b1 b2 f0 f1 f2 v8 y8
  obtain⟨_,f0,f1,f2,_,_,_⟩:=aJ (Below.refl _ wF) hF8
  refine bodyPost_ret (by simp[results,Tryz.results14,go_sem,f0,f1,f2];try rfl) rfl ?_
  exact⟨fc HRR.out,hFB⟩
 have HR4:Hid (r=if q.2=0 then (if p.2=0 then (p.1,q.1,0) else (.zero,[],p.2)) else (.zero,[],q.2)):=by rw[Hid,HR3.out,if_pos rfl]
 clear HR3
 go_wp2_with fail
 refine(HA.out w4 HB4.out).mono ?_
 obtain⟨ql,qe⟩:=q
 rintro e w5 ⟨⟨ma,mn,mc,rfl,hmc,hms⟩,hB5⟩
 have h4:=H4.out.below hB5 H4.out.lt
 have h8:=H8.out.below hB5 H8.out.lt
 have HB5:Hid (Below w.heap.size w w5):=HB4.out.trans (hB5.mono HB4.out.size)
 have HMS:=aa hms
 clear HA H4 H8 HB4 hB5 b0 b1 b2 f0 f1 f2 v8 y8 hms
 simp only at HR4 HQ HMS
 obtain⟨_,b0,b1,b2,_,_,_⟩:=aJ (Below.refl _ w5) h4
 obtain⟨_,f0,f1,f2,v8,y8⟩:=aJ (Below.refl _ w5) h8
 have H4:=aa h4
 have H8:=aa h8
 clear h4 h8
 by_cases ha0:qe=0
 rotate_left
 ·have m1:(qe == 0)=false:=by simpa using ha0
  have m1':(qe != 0)=true:=by simpa using ha0
  have HRR:Hid (r=(.zero,[],qe)):=by rw[Hid,HR4.out,if_neg ha0]
  clear ha0 HR4 HP HQ
  go_wp2_with fail
  obtain⟨wF,hwF⟩:=zg ((((w5.setCell ⟨X8,0,none⟩ (.slice none 0 0)).setCell ⟨X8,1,none⟩ (.int .i64 0)).setCell ⟨X8,2,none⟩ (.int .i64 0)))
  have hF8:ac wF X8 24 [.slice none 0 0,.int .i64 0,.int .i64 0]:=by rw[hwF];exact bX H8.out _ _ _
  have hFB:Below w.heap.size w wF:=by rw[hwF];exact aY HB5.out HX.out.1 _ _ _
  rw[<-hwF]
  clear hwF b0 b1 b2 f0 f1 f2 v8 y8
  obtain⟨_,f0,f1,f2,_,_,_⟩:=aJ (Below.refl _ wF) hF8
  refine bodyPost_ret (by simp[results,Tryz.results14,go_sem,f0,f1,f2];try rfl) rfl ?_
  exact⟨fc HRR.out,hFB⟩
 have m1:(qe == 0)=true:=by simpa using ha0
 have m1':(qe != 0)=false:=by simpa using ha0
 have HR5:Hid (r=if p.2=0 then (p.1,ql,0) else (.zero,[],p.2)):=by rw[Hid,HR4.out,if_pos ha0]
 obtain⟨n0,n1,n2,n3,hql⟩:=HQ.out ha0
 simp only[Prod.mk.injEq]at hql
 obtain⟨rfl,rfl⟩:=hql
 obtain⟨K,hK⟩:=zg l.length
 obtain rfl:mn=K+1:=by have:=HMS.out.len;rw[List.length_append,List.length_singleton]at this;omega
 obtain⟨x,hx⟩:=zg (cm l node d)
 obtain⟨x',bL,off,ea,en,ec,hx',rfl,hpx,hec,hsx,hrx⟩:=ek HMS.out (k:=K) om
 obtain rfl:x'=x:=by
  rw[hK,List.getElem?_append_right (Nat.le_refl _),Nat.sub_self]at hx'
  simp only[List.getElem?_cons_zero,Option.some.injEq]at hx'
  rw[hx,hx']
 have hI1:bQ x'.node:=by rw[hx];exact⟨by show -9223372036854775808<=node;omega,by show node<=9223372036854775807;omega⟩
 have hI2:bQ x'.no:=by rw[hx];exact⟨by show -9223372036854775808<=(l.length:Int);omega,by show (l.length:Int)<=9223372036854775807;omega⟩
 have hdl:x'.data.length<=100000:=by rw[hx];show d.length<=100000;omega
 obtain⟨E,hE⟩:∃E,aL (cM x')=E:=⟨_,rfl⟩
 have HEL:Hid (E.length<=100000):=by rw[<-hE];exact qq x' hI1 hI2 hpx (by rw[hx];exact n3)
 have HRC:Hid (∀W,Below w5.heap.size w5 W->Calls Tryz.prog 35 #[.agg (ah x' ea en ec).toArray] W fun e w'=>(∃va vc,e=.returned (.slice va E.length vc)/\w'.ownsRow W.heap.size 5 1 (.slice va E.length vc) E.length (af E))/\Below W.heap.size W w'):=fun W hW=>oF x' ea en ec W hpx hI1 hI2 (hsx.below ai.keeps hW) hdl E hE
 have HPE:Hid (p=bu j E):=by rw[Hid,HPQ.out,<-hE,hx];rfl
 have HRX:=aa hrx
 have HPX:=aa hpx
 have hKb:K<=100000:=om
 clear HQ ha0 HR4 hx' hsx hrx hpx hec hI1 hI2 hdl hE HPQ n0 n1 n2 n3 hx hK
 go_upto_region 12 with (fail)
 have HS0:Hid (ac w5 X4 24 [.slice a n c,.int .i64 jm,.int .i64 js]/\w5.rangeAt bL (off+K*35) (ah x' ea en ec)):=⟨H4.out,HRX.out⟩
 have HBX:Hid (bL≠X8):=zU HRX.out HPX.out H8.out jP
 clear b0 b1 b2 f0 f1 f2 v8 y8
 refine bA (fun W=>ac W X4 24 [.slice a n c,.int .i64 jm,.int .i64 js]/\W.rangeAt bL (off+K*35) (ah x' ea en ec)) kr ?_
 change aW _ _ _ _ _ _ #[false,false,false,false,false,false,false,false,false,false,false,false,false,false] _ (World.drew w5)
 have hBd:Below w5.heap.size w5 (World.drew w5):=(Below.refl _ w5).drew
 have hS:ac (World.drew w5) X4 24 [.slice a n c,.int .i64 jm,.int .i64 js]/\(World.drew w5).rangeAt bL (off+K*35) (ah x' ea en ec):=⟨ac.drew HS0.out.1,bS hBd HS0.out.2⟩
 have H8:Hid (ac (World.drew w5) X8 24 [.slice none 0 0,.int .i64 0,.int .i64 0]):=ac.drew H8.out
 generalize World.drew w5=x0 at *
 refine aZ 0 44 (.agg #[.slice a n c,.int .i64 jm,.int .i64 js]) rfl (fun W h=>fg (.tmp 4) kr X4 kr h.1) hS ?_
 simp only[Act.put,zp]
 refine ay 1 45 (.slice (some ⟨bL,off,none⟩) (K+1) mc) rfl hS ?_
 simp only[Act.put,zp]
 refine ay 2 46 (.slice (some ⟨bL,off,none⟩) (K+1) mc) rfl hS ?_
 simp only[Act.put,zp]
 refine ay 3 47 (.int .i64 ((K+1:Nat):Int)) rfl hS ?_
 simp only[Act.put,zp]
 refine aZ 4 48 (.int .i64 (K:Int)) rfl (fun W h=>m8 (.tmp 47) kr K kr hKb) hS ?_
 simp only[Act.put,zp]
 refine aZ 5 49 (.pointer (some ⟨bL,off+K*35,none⟩)) rfl (fun W h=>iq (.tmp 45) (.tmp 48) kr bL off (K+1) mc K kr kr om) hS ?_
 simp only[Act.put,zp]
 refine aZ 6 50 (.agg (ah x' ea en ec).toArray) rfl (fun W h=>aH 50 (.tmp 49) kr bL (off+K*35) kr (ah x' ea en ec) _ h.2 Tryz.underlying50 rfl (ej HPX.out ea en ec)) hS ?_
 simp only[Act.put,zp]
 refine jF 7 51 (fun v w'=>∃ra rc,v=.slice ra E.length rc/\w'.ownsRow x0.heap.size 5 1 (.slice ra E.length rc) E.length (af E)/\Below x0.heap.size x0 w') kr rfl kr kr (fun K' Q' hK' => ?hcall) ?_
 case hcall =>
  unfold Oper.wp
  rw[show (execOp (Act.eval _) _).run Tryz.prog x0=.ok (.enter 35 #[.agg (ah x' ea en ec).toArray]) x0 from by kernel_rfl]
  refine(HRC.out x0 hBd).mono ?_
  rintro e w' ⟨⟨ra,rc,rfl,hown⟩,hBe⟩
  exact hK' _ _ ⟨ra,rc,rfl,hown,hBe⟩
 rintro _ x1 ⟨ra,rc,rfl,hown,hU⟩
 have hS:ac x1 X4 24 [.slice a n c,.int .i64 jm,.int .i64 js]/\x1.rangeAt bL (off+K*35) (ah x' ea en ec):=⟨hS.1.below hU hS.1.lt,bS hU hS.2⟩
 have H8:Hid (ac x1 X8 24 [.slice none 0 0,.int .i64 0,.int .i64 0]):=H8.out.below hU H8.out.lt
 have hBd1:Below w5.heap.size w5 x1:=hBd.trans (hU.mono hBd.size)
 have hbs:aN Nz x1 [.slice ra E.length rc] E:=i4 hown
 have HBS:=aa hbs
 refine⟨hS,?_⟩
 clear hU hown hbs hBd
 simp only[Act.put,zp]
 refine jF 8 52 (fun v w'=>eW Nz (.returned v) w' p.1 p.2/\Below x1.heap.size x1 w') kr rfl kr kr (fun K' Q' hK' => ?hcall) ?_
 case hcall =>
  unfold Oper.wp
  rw[show (execOp (Act.eval _) _).run Tryz.prog x1=.ok (.enter 17 #[.agg #[.slice a n c,.int .i64 jm,.int .i64 js],.slice ra E.length rc]) x1 from by kernel_rfl]
  refine(HP.out x1 ra E.length rc E (HB5.out.trans (hBd1.mono HB5.out.size)) HOKB.out HEL.out HBS.out).mono ?_
  rintro e w' ⟨hg,hBe⟩
  rw[<-HPE.out]at hg
  obtain⟨qa,qn,qc,rfl,hj⟩:=hg
  exact hK' _ _ ⟨⟨qa,qn,qc,rfl,hj⟩,hBe⟩
 rintro z x2 ⟨⟨qa,qn,qc,hz,hj⟩,hU⟩
 obtain rfl:=Ending.returned.inj hz
 have hS:ac x2 X4 24 [.slice a n c,.int .i64 jm,.int .i64 js]/\x2.rangeAt bL (off+K*35) (ah x' ea en ec):=⟨hS.1.below hU hS.1.lt,bS hU hS.2⟩
 have H8:Hid (ac x2 X8 24 [.slice none 0 0,.int .i64 0,.int .i64 0]):=H8.out.below hU H8.out.lt
 have hBd2:Below w5.heap.size w5 x2:=hBd1.trans (hU.mono hBd1.size)
 have HJ:=aa hj
 refine⟨hS,?_⟩
 clear hU hj hBd1
 simp only[Act.put,zp]
 obtain⟨⟨pr,pm,ps⟩,pe⟩:=p
 simp only at HJ HR5 ⊢
 refine ay 9 43 (.tuple #[.agg #[.slice qa qn qc,.int .i64 pm,.int .i64 ps],.int .i64 pe]) rfl hS ?_
 simp only[Act.put,zp]
 refine ay 10 53 (.agg #[.slice qa qn qc,.int .i64 pm,.int .i64 ps]) rfl hS ?_
 simp only[Act.put,zp]
 refine ay 11 54 (.int .i64 pe) rfl hS ?_
 simp only[Act.put,zp]
 have hB6:=HB5.out.trans (hBd2.mono HB5.out.size)
 obtain⟨w6,hw6⟩:=zg (((x2.setCell ⟨X8,0,none⟩ (.slice qa qn qc)).setCell ⟨X8,1,none⟩ (.int .i64 pm)).setCell ⟨X8,2,none⟩ (.int .i64 ps))
 have hoN:cU X8 x2 w6:=by rw[hw6];exact cq _ _ _ _ _
 have hsN:x2.heap.size<=w6.heap.size:=by rw[hw6];simp
 have hN8:ac w6 X8 24 [.slice qa qn qc,.int .i64 pm,.int .i64 ps]:=by rw[hw6];exact bX H8.out _ _ _
 have hNB:Below w.heap.size w w6:=by rw[hw6];exact aY hB6 HX.out.1 _ _ _
 have hNJ:=dt HJ.out hoN hsN (Nat.le_trans HNZ.out HX.out.1) H8.out (.inl rfl)
 have hNM:=fd (HMS.out.below aq.keeps hBd2) hoN H8.out jP
 have hSN:ac w6 X4 24 [.slice a n c,.int .i64 jm,.int .i64 js]/\w6.rangeAt bL (off+K*35) (ah x' ea en ec):=⟨dR hS.1 hoN hne,fun j v hv=>by
  have:=hS.2 j v hv
  rw[<-this]
  unfold World.cell?
  rw[hoN bL HBX.out]⟩
 obtain⟨_,f0,f1,f2,⟨v0,v1,v2⟩,y0,y1,y2⟩:=aJ (Below.refl _ x2) H8.out
 refine aU 12 kr rfl kr ?_
 unfold Oper.wp
 go_simp
 rw[<-hw6]
 clear hw6 f0 f1 f2 v0 v1 v2 y0 y1 y2 hoN hsN hB6 hS H8 H4 HMS HJ
 refine⟨hSN,?_⟩
 have hS:=hSN
 clear hSN
 try simp only[Act.put,zP]
 refine ay 13 10 (.int .i64 pe) rfl hS ?_
 simp only[Act.put,zp]
 clear hS
 refine bp kr ?_
 have HNB:=aa hNB
 have HNJ:=aa hNJ
 have HNM:=aa hNM
 have H8:=aa hN8
 obtain⟨_,f0,f1,f2,v8,y8⟩:=aJ (Below.refl _ w6) hN8
 clear hNB hNJ hNM hN8 hBd2
 by_cases hp0:pe=0
 rotate_left
 ·have t1:(pe == 0)=false:=by simpa using hp0
  have t1':(pe != 0)=true:=by simpa using hp0
  have HRR:Hid (r=(.zero,[],pe)):=by rw[Hid,HR5.out,if_neg hp0]
  clear hp0 HR5
  go_wp2_with fail
  obtain⟨wF,hwF⟩:=zg ((((w6.setCell ⟨X8,0,none⟩ (.slice none 0 0)).setCell ⟨X8,1,none⟩ (.int .i64 0)).setCell ⟨X8,2,none⟩ (.int .i64 0)))
  have hF8:ac wF X8 24 [.slice none 0 0,.int .i64 0,.int .i64 0]:=by rw[hwF];exact bX H8.out _ _ _
  have hFB:Below w.heap.size w wF:=by rw[hwF];exact aY HNB.out HX.out.1 _ _ _
  rw[<-hwF]
  clear hwF f0 f1 f2 v8 y8
  obtain⟨_,f0,f1,f2,_,_,_⟩:=aJ (Below.refl _ wF) hF8
  refine bodyPost_ret (by simp[results,Tryz.results14,go_sem,f0,f1,f2];try rfl) rfl ?_
  exact⟨fc HRR.out,hFB⟩
 have t1:(pe == 0)=true:=by simpa using hp0
 have t1':(pe != 0)=false:=by simpa using hp0
 have HRR:Hid (r=(⟨pr,pm,ps⟩,l++[cm l node d],0)):=by rw[Hid,HR5.out,if_pos hp0]
 clear hp0 HR5
 go_wp2_with fail
 obtain⟨wF,hwF⟩:=zg ((((w6.setCell ⟨X8,0,none⟩ (.slice qa qn qc)).setCell ⟨X8,1,none⟩ (.int .i64 pm)).setCell ⟨X8,2,none⟩ (.int .i64 ps)))
 have hoF:cU X8 w6 wF:=by rw[hwF];exact cq _ _ _ _ _
 have hsF:w6.heap.size<=wF.heap.size:=by rw[hwF];simp
 have hF8:ac wF X8 24 [.slice qa qn qc,.int .i64 pm,.int .i64 ps]:=by rw[hwF];exact bX H8.out _ _ _
 have hFB:Below w.heap.size w wF:=by rw[hwF];exact aY HNB.out HX.out.1 _ _ _
 have hFJ:=dt HNJ.out hoF hsF (Nat.le_trans HNZ.out HX.out.1) H8.out (.inl rfl)
 have hFM:=fd HNM.out hoF H8.out jP
 rw[<-hwF]
 clear hwF hoF hsF f0 f1 f2 v8 y8
 obtain⟨_,f0,f1,f2,_,_,_⟩:=aJ (Below.refl _ wF) hF8
 refine bodyPost_ret (by simp[results,Tryz.results14,go_sem,f0,f1,f2];try rfl) rfl ?_
 exact⟨by rw[HRR.out];exact⟨_,_,_,_,_,_,rfl,hFJ,hmc,hFM⟩,hFB⟩
end Go.Proofs.YtmflnpdmlfmcpaaGreatDoor.Dr
