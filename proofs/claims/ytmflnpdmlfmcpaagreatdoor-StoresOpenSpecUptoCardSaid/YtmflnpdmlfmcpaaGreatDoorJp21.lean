/- Joined texts. -/
import Derived.Test.YtmflnpdmlfmcpaaGreatDoorJp19
set_option maxRecDepth 100000
set_option maxHeartbeats 16000000
namespace Go.Proofs.YtmflnpdmlfmcpaaGreatDoor.Dr
open Go.RowKit Go.Shelf
attribute [local go_sem] Oper.semAt_some
structure BS where
 x:ar
 a:Option Addr
 n:Nat
 c:Nat
def uD (v:BS):Array Value:=#[.agg (ah v.x v.a v.n v.c).toArray]
def dq (W:World)(a:Option Addr)(n:Nat)(l:List UInt8):Prop:=Sl 1 ai W a n l/\∀ad,a=some ad->∃cs fr,W.heap[ad.block]? = some (.cells cs 5 fr)
theorem dq.heap {W W':World}{a:Option Addr}{n:Nat}{l:List UInt8}(h:dq W a n l)(hW:∀ad,a=some ad->W'.heap[ad.block]? = W.heap[ad.block]?):dq W' a n l:=by
 refine⟨⟨h.1.1,?_⟩,fun ad ha=>by obtain⟨cs,fr,h2⟩:=h.2 ad ha;exact⟨cs,fr,(hW ad ha).trans h2⟩⟩
 rcases h.1.2 with h2|⟨b,off,ha,hc⟩
 ·exact .inl h2
 ·refine .inr ⟨b,off,ha,fun i x hx => ?_⟩
  obtain⟨vs,hk,hv,hcell⟩:=hc i x hx
  refine⟨vs,hk,hv,fun j v hj => ?_⟩
  have e9:W'.cell? ⟨b,off+i*1+j,none⟩=W.cell? ⟨b,off+i*1+j,none⟩:=World.cell?_of_block (hW ⟨b,off,none⟩ ha)
  rw[e9]
  exact hcell j v hj
theorem dq.below {W W':World}{a:Option Addr}{n:Nat}{l:List UInt8}(h:dq W a n l)(hb:Below W.heap.size W W'):dq W' a n l:=
 h.heap fun ad ha=>by obtain⟨cs,fr,h2⟩:=h.2 ad ha;exact hb.block _ (Array.getElem?_eq_some_iff.1 h2).1
def Ab (W:World)(v:BS)(y:ar):Prop:=v.x=y/\y.prev.length=32/\(bQ y.node/\bQ y.no)/\v.n<=v.c/\dq W v.a v.n y.data
theorem fI {P:Program}{md:Region.Mode}{ops:Array Oper}{Q:Exit->Act->World->Prop}{S S':World->Prop}(h:∀W,S' W->S W):∀ {k:Nat} {l:Array Bool} {a:Act} {w:World},aW P md ops Q S' k l a w->aW P md ops Q S k l a w
 | 0,_,_,_,hw=>hw
 | _+1,_,_,_,hw=>⟨hw.1,fun i hi=>wpOp_mono (fun _ _ ⟨h1,h2⟩=>⟨h _ h1,fI h h2⟩) (hw.2 i hi)⟩
theorem uE {P:Program}{md:Region.Mode}{ops:Array Oper}{Q:Exit->Act->World->Prop}{S:World->Prop}(i j m:Nat){oi oj om:Oper}{k:Nat}{l:Array Bool}{a:Act}{w:World}(hr:Region.ready md ops l=[i,j,m])(hi:ops[i]? = some oi)(hj:ops[j]? = some oj)(hm:ops[m]? = some om)
  (gi:Region.wanted oi (yielded ops a.tmps)=true) (gj:Region.wanted oj (yielded ops a.tmps)=true) (gm:Region.wanted om (yielded ops a.tmps)=true)
  (h1:oi.wp P a w (fun a' w'=>S w'/\aW P md ops Q S k (l.setIfInBounds i true) a' w') Q) (h2:oj.wp P a w (fun a' w'=>S w'/\aW P md ops Q S k (l.setIfInBounds j true) a' w') Q) (h3:om.wp P a w (fun a' w'=>S w'/\aW P md ops Q S k (l.setIfInBounds m true) a' w') Q):aW P md ops Q S (k+1) l a w:=by
 refine⟨fun h0=>(by rw[hr]at h0;cases h0),fun q hq => ?_⟩
 rw[hr]at hq
 simp only[List.mem_cons,List.not_mem_nil,or_false]at hq
 unfold wpOp
 rcases hq with rfl|rfl|rfl
 ·simp only[hi];rw[if_pos gi];exact .inl h1
 ·simp only[hj];rw[if_pos gj];exact .inl h2
 ·simp only[hm];rw[if_pos gm];exact .inl h3
theorem fJ {P:Program}{md:Region.Mode}{ops:Array Oper}{Q:Exit->Act->World->Prop}{S:World->Prop}(i j:Nat){oi oj:Oper}{k:Nat}{l:Array Bool}{a:Act}{w:World}(hr:Region.ready md ops l=[i,j])(hi:ops[i]? = some oi)(hj:ops[j]? = some oj)
  (gi:Region.wanted oi (yielded ops a.tmps)=true) (gj:Region.wanted oj (yielded ops a.tmps)=true)
  (h1:oi.wp P a w (fun a' w'=>S w'/\aW P md ops Q S k (l.setIfInBounds i true) a' w') Q) (h2:oj.wp P a w (fun a' w'=>S w'/\aW P md ops Q S k (l.setIfInBounds j true) a' w') Q):aW P md ops Q S (k+1) l a w:=by
 refine⟨fun h0=>(by rw[hr]at h0;cases h0),fun q hq => ?_⟩
 rw[hr]at hq
 simp only[List.mem_cons,List.not_mem_nil,or_false]at hq
 unfold wpOp
 rcases hq with rfl|rfl
 ·simp only[hi];rw[if_pos gi];exact .inl h1
 ·simp only[hj];rw[if_pos gj];exact .inl h2
theorem ky {F:Fence}{n:Nat}{P:Program}{ops:Array Oper}{rest:List Oper}{o:Oper}{a:Act}{w:World}{Q:Exit->Act->World->Prop}(hF:jh F)(v:Value)(hd:es o=true)(hw:Region.wanted o (yielded ops a.tmps)=true)(hr:(execOp a.eval o).run P w=.ok (.value v) w)(h:wpListIn F n P ops Q rest (a.put o.dst v) w):wpListIn F n P ops Q (o::rest) a w:=by
 unfold wpListIn
 rw[if_pos hw]
 refine Oper.open_of_wp hF hd ?_
 unfold Oper.wp
 rw[hr,Oper.upon_value]
 exact h
theorem ms {o:Oper}{a:Act}{W:World}(x:Operand)(ho:o.op=.load 9 x)(p:Addr){v:Value}(hx:a.eval x=.pointer (some p))(hc:W.cell? p=some v):(execOp a.eval o).run Tryz.prog W=.ok (.value v) W:=by
 unfold execOp
 simp only[ho,hx]
 go_simp
theorem gK (l:List UInt8)(n:Nat)(hn:l.length=n)(W:World):∃W2 c2,(convert 9 40 (.string (aw l))).run Tryz.prog W=.ok (.slice (some ⟨W.heap.size,0,none⟩) n c2) W2/\Below W.heap.size W W2/\Sl 1 ai W2 (some ⟨W.heap.size,0,none⟩) n l/\n<=c2/\W2.heap.size=W.heap.size+1:=by
 have e1:(aw l).size=n:=by rw[<-hn];simp[aw,ByteArray.size]
 have e2:(aw l).data.toList=l:=by simp[aw]
 obtain⟨W2,c2,h1,h2,h3,h4⟩:=np (aw l) W
 have h5:=Lib.run_convert_string_bytes (P:=Tryz.prog) W 9 40 5 (aw l) Tryz.underlying9 Tryz.underlying40 Tryz.underlying5
 rw[h1]at h5
 have hz:W2.heap.size=W.heap.size+1:=by
  simp only[Result.ok.injEq]at h5
  rw[h5.2,Lib.bytesWorld_size]
 rw[e1]at h1 h3 h4
 rw[e2]at h3
 exact⟨W2,c2,h1,h2,h3,h4,hz⟩
theorem BT (w:World)(e:TypeId)(s:ByteArray):∃cs fr,(Lib.bytesWorld w e s).heap[w.heap.size]? = some (.cells cs e fr):=by
 refine⟨Lib.bytesCells w e s,((Lib.bytesCells w e s).size,(Lib.bytesCells w e s).size+1),?_⟩
 unfold Lib.bytesWorld
 simp[World.freeze,World.alloc,World.drew,-World.alloc_eq,-World.drew_eq,Array.getElem_modify]
theorem fK (l:List UInt8)(n:Nat)(hn:l.length=n)(W:World):∃W2 c2,(convert 9 40 (.string (aw l))).run Tryz.prog W=.ok (.slice (some ⟨W.heap.size,0,none⟩) n c2) W2/\Below W.heap.size W W2/\dq W2 (some ⟨W.heap.size,0,none⟩) n l/\n<=c2/\W2.heap.size=W.heap.size+1:=by
 obtain⟨W2,c2,h1,h2,h3,h4,h6⟩:=gK l n hn W
 have h5:=Lib.run_convert_string_bytes (P:=Tryz.prog) W 9 40 5 (aw l) Tryz.underlying9 Tryz.underlying40 Tryz.underlying5
 rw[h1]at h5
 refine⟨W2,c2,h1,h2,⟨h3,fun ad ha => ?_⟩,h4,h6⟩
 cases ha
 simp only[Result.ok.injEq]at h5
 rw[h5.2]
 exact BT W 5 (aw l)
theorem dQ {o:Oper}{a:Act}{W W2:World}(x:Operand)(ho:o.op=.convert 9 40 x){v u:Value}(hx:a.eval x=v)(h:(convert 9 40 v).run Tryz.prog W=.ok u W2):(execOp a.eval o).run Tryz.prog W=.ok (.value u) W2:=by
 unfold execOp
 simp only[ho,hx,Sem.run_bind,Sem.run_pure,Result.andThen_ok,h]
theorem gy {W:World}{b n:Nat}{l:List UInt8}(h:Sl 1 ai W (some ⟨b,0,none⟩) n l):W.rangeAt b 0 (af l):=fun j v hv=>by
 rcases h.2 with h0|⟨b',off,ha,hc⟩
 ·have:=h.1
  rw[h0]at this
  have:l=[]:=List.eq_nil_of_length_eq_zero this
  rw[this]at hv
  simp[af]at hv
 ·cases ha
  obtain⟨x,hx⟩:∃x,l[j]? = some x:=by
   have hlt:j<(af l).length:=(List.getElem?_eq_some_iff.1 hv).1
   rw[bJ]at hlt
   exact⟨_,List.getElem?_eq_getElem hlt⟩
  obtain⟨vs,_,hv2,hcell⟩:=hc j x hx
  cases hv2
  have h1:=hcell 0 _ rfl
  rw[cd hx]at hv
  cases hv
  simpa using h1
theorem iW {d:List UInt8}(h:d.length=32):(Tryz.prog.info? 48).map (·.size)=some (af d).length:=by rw[bJ,h];kernel_rfl
theorem ei {x:ar}(h:x.prev.length=32)(a:Option Addr)(n c:Nat):(Tryz.prog.info? 50).map (·.size)=some (ah x a n c).toArray.size:=by rw[List.size_toArray,bh h];exact jg
theorem ej {x:ar}(h:x.prev.length=32)(a:Option Addr)(n c:Nat):(Tryz.prog.info? 50).map (·.size)=some (ah x a n c).length:=by rw[bh h];exact jg
theorem AS {d:Nat}{l s:List UInt8}{v:aT}(h:aV d l=some (v,s)):(aI v).length<=l.length:=by
 cases l with
 | nil=>rw[fG]at h;cases h
 | cons c r =>
  by_cases h1:c.toNat=1
  ·rw[fH d r h1]at h
   cases hn:bv 0 r with
   | none=>rw[hn]at h;cases h
   | some p=>obtain⟨u,t⟩:=p;rw[hn]at h;cases h;simp[aI]
  by_cases h2:c.toNat=2
  ·rw[eU d r h2]at h
   cases hn:cx r with
   | none=>rw[hn]at h;cases h
   | some p=>obtain⟨u,t⟩:=p;rw[hn]at h;cases h;have:=(fD hn).2;simp[aI];omega
  by_cases h3:c.toNat=3
  ·cases d with
   | zero=>rw[fU r h3]at h;cases h
   | succ d =>
    rw[eV d r h3]at h
    cases hn:cx r with
    | none=>rw[hn]at h;cases h
    | some p =>
     obtain⟨u,t⟩:=p
     rw[hn]at h
     simp only at h
     cases hq:bj (aV d) u t with
     | none=>rw[hq]at h;cases h
     | some q=>obtain⟨us,t'⟩:=q;rw[hq]at h;cases h;simp[aI]
  ·rw[eD d r h1 h2 h3]at h;cases h
theorem rC {f:List UInt8->Option (aT × List UInt8)}(hf:∀l v s,f l=some (v,s)->(aI v).length<=l.length/\s.length<=l.length):∀(n:Nat) (l:List UInt8) (vs:List aT) (t:List UInt8),bj f n l=some (vs,t)->∀v ∈ vs,(aI v).length<=l.length
 | 0,l,vs,t,h,v,hv=>by simp only[bj,Option.some.injEq,Prod.mk.injEq]at h;rw[<-h.1]at hv;cases hv
 | n+1,l,vs,t,h,v,hv=>by
  simp only[bj]at h
  cases h1:f l with
  | none=>rw[h1]at h;cases h
  | some p =>
   obtain⟨v',s⟩:=p
   rw[h1]at h
   cases h2:bj f n s with
   | none=>simp only[h2]at h;cases h
   | some q =>
    obtain⟨us,t'⟩:=q
    simp only[h2,Option.some.injEq,Prod.mk.injEq]at h
    have h3:=hf l v' s h1
    rw[<-h.1]at hv
    rcases List.mem_cons.1 hv with rfl|hv
    ·exact h3.1
    ·have:=rC hf n s us t' h2 v hv;omega
theorem mt {b:List UInt8}{l:List aT}(h:ct b=some (.list l)):∀v ∈ l,(aI v).length<=b.length:=by
 unfold ct at h
 split at h
 ·next v hv =>
  cases h
  cases b with
  | nil=>rw[fG]at hv;cases hv
  | cons c r =>
   by_cases h1:c.toNat=1
   ·rw[fH 16 r h1]at hv
    cases hn:bv 0 r with
    | none=>rw[hn]at hv;cases hv
    | some p=>obtain⟨u,t⟩:=p;rw[hn]at hv;cases hv
   by_cases h2:c.toNat=2
   ·rw[eU 16 r h2]at hv
    cases hn:cx r with
    | none=>rw[hn]at hv;cases hv
    | some p=>obtain⟨u,t⟩:=p;rw[hn]at hv;cases hv
   by_cases h3:c.toNat=3
   ·rw[eV 15 r h3]at hv
    cases hn:cx r with
    | none=>rw[hn]at hv;cases hv
    | some p =>
     obtain⟨u,t⟩:=p
     rw[hn]at hv
     simp only at hv
     cases hq:bj (aV 15) u t with
     | none=>rw[hq]at hv;cases hv
     | some q =>
      obtain⟨us,t'⟩:=q
      rw[hq]at hv
      cases hv
      intro v hv
      have h5:=rC (fun l v s h=>⟨AS h,rp 15 l v s h⟩) u t _ _ hq v hv
      have h6:=(fD hn).2
      simp
      omega
   ·rw[eD 16 r h1 h2 h3]at hv;cases hv
 ·cases h
theorem dq.other {W:World}{X g n:Nat}{l:List UInt8}(h:dq W (some ⟨g,0,none⟩) n l)(hne:g≠X)(D:Array Value):dq (W.setRow X D) (some ⟨g,0,none⟩) n l:=
 h.heap fun ad ha=>by cases ha;exact setRow_other W X g D hne
theorem Sl.other {W:World}{X g n:Nat}{l:List UInt8}(h:Sl 1 ai W (some ⟨g,0,none⟩) n l)(hne:g≠X)(D:Array Value):Sl 1 ai (W.setRow X D) (some ⟨g,0,none⟩) n l:=by
 obtain⟨h1,h2⟩:=h
 refine⟨h1,?_⟩
 rcases h2 with h2|⟨b,off,ha,hc⟩
 ·exact .inl h2
 ·refine .inr ⟨b,off,ha,fun i x hx => ?_⟩
  obtain⟨vs,hk,hv,hcell⟩:=hc i x hx
  refine⟨vs,hk,hv,fun j v hj => ?_⟩
  cases ha
  rw[World.cell?_of_block (setRow_other W X g D hne)]
  exact hcell j v hj
theorem wS (n':Nat)(w0 wA:World)(X:Nat)(a:Option Addr)(n c:Nat)(rs:List (List UInt8))(hA:Below w0.heap.size w0 wA)(hX:wA.cell? ⟨X,0,none⟩=some (.slice a n c))(hn:n<=100000)(h:Sl 1 gG w0 a n rs)(hd:∀r ∈ rs,r.length<=100000) :
  pR Fence.wide n' Tryz.prog 100 #[.pointer (some ⟨X,0,none⟩)] uD Ab (fun W W'=>Below w0.heap.size W W') (aK rs).1 (uB (aK rs).2) wA:=by
 intro lp J W hW hG hY h0
 refine callsIn_wide.2 ?_
 have H:=aa h
 have HLEN:=aa h.1
 have hx0:=ag hW hX
 have HW:=aa (hA.trans (hW.mono hA.size))
 have HY:=aa hY
 have HG:=aa hG
 have HD:=aa hd
 have HJ0:=aa h0
 clear hY hG hX h hd h0 hW hA
 show Calls Tryz.prog 100 #[.func (.yield lp) #[] #[],.pointer (some ⟨X,0,none⟩)] W fun e W'=>wG (uB (aK rs).2) e/\J (aK rs).1 W'
 go_enter Tryz.func100,Tryz.ntmps100
 go_wp2_with fail
 clear hx0
 go_loopw [10] (fun s10 wr=>∃(k:Nat) (pre:List ar),k<=n/\s10=.int .i64 k/\(aK rs).1=pre++(aK (rs.drop k)).1/\(aK rs).2=(aK (rs.drop k)).2/\J pre wr/\Below w0.heap.size w0 wr) (fun s10 _=>n-(intOf s10).toNat)
 case atStart=>exact⟨0,[],Nat.zero_le _,rfl,by simp,by simp,HJ0.out,HW.out⟩
 case round =>
  clear HJ0 HW
  obtain⟨k,pre,hk,rfl,hl1,hl2,hJ,hB⟩:=hrel
  have HL1:=aa hl1
  have HL2:=aa hl2
  have HJ:=aa hJ
  have HB:=aa hB
  clear hl1 hl2 hJ hB
  by_cases hlt:k<n
  ·obtain⟨r,b,off,ra,rn,rc,hrk,rfl,hcell,hrc,hsl⟩:=rx H.out hlt
   have HRK:=aa hrk
   have HRL:=aa (HD.out r (List.mem_of_getElem? hrk))
   have HSL:=aa hsl
   have hcell:=ag HB.out hcell
   have HDC:=aa (uA ra rn rc r wr (by have h9:=hsl.1;have:=HRL.out;omega) hrc (hsl.below ai.keeps HB.out))
   have HKN:Hid (k<n):=hlt
   have HRC:=aa hrc
   have k0:(0:Int)<=(k:Int):=om
   have k1:(k:Int)<(n:Int):=om
   clear hrk hsl hrc hk
   go_wp2_with fail
   refine HDC.out.mono ?_
   rintro e w2 ⟨hS2,hres⟩
   have HJ2:Hid (J pre w2):=HG.out _ _ _ HJ.out hS2
   have HB2:Hid (Below w0.heap.size w0 w2):=HB.out.trans (hS2.mono HB.out.size)
   clear HDC hS2 HJ HB hcell k0 k1
   rcases hres with ⟨v,x0,x1,x2,x3,hdec,rfl,hvr⟩|⟨hdec,rfl⟩
   rotate_left
   ·have hrl:=lS hdec
    clear hdec
    have HP:Hid ((aK rs).1=pre/\(aK rs).2=false):=by
     have h9:=dm HRK.out
     rw[hrl]at h9
     exact⟨by rw[HL1.out,h9];simp,by rw[HL2.out,h9]⟩
    clear hrl
    go_upto_region 4 with (refine wpList_store_row rfl 88 (.tmp 5) (.tmp 17) rfl w2.heap.size #[.int .i64 0,.int .i64 0,.string ⟨#[]⟩,.slice none 0 0] ?e1 ?e2 88 #[.int .i64 0,.int .i64 0,.string ⟨#[]⟩,.slice none 0 0] (heap_alloc_new w2 _) (aS (.int .i64 0) (.int .i64 0) (.string ⟨#[]⟩) (.slice none 0 0)) rfl kr ?_;(case e1=>rfl);(case e2=>rfl))
    have hx5:ac ((w2.alloc (.cells #[.int .i64 0,.int .i64 0,.string ⟨#[]⟩,.slice none 0 0] 88)).setRow w2.heap.size #[.int .i64 0,.int .i64 0,.string ⟨#[]⟩,.slice none 0 0]) w2.heap.size 88 [.int .i64 0,.int .i64 0,.string ⟨#[]⟩,.slice none 0 0]:=setRow_heap _ _ _ _ _ _ (heap_alloc_new w2 _)
    have hS3:Below w2.heap.size w2 ((w2.alloc (.cells #[.int .i64 0,.int .i64 0,.string ⟨#[]⟩,.slice none 0 0] 88)).setRow w2.heap.size #[.int .i64 0,.int .i64 0,.string ⟨#[]⟩,.slice none 0 0]):=bf _ _ _
    generalize (w2.alloc (.cells #[.int .i64 0,.int .i64 0,.string ⟨#[]⟩,.slice none 0 0] 88)).setRow w2.heap.size #[.int .i64 0,.int .i64 0,.string ⟨#[]⟩,.slice none 0 0]=w3 at *
    obtain⟨X5,hX5⟩:=zg w2.heap.size
    rw[<-hX5]at hx5 ⊢
    have HJ3:Hid (J pre w3):=HG.out _ _ _ HJ2.out hS3
    have HB3:Hid (Below w0.heap.size w0 w3):=HB2.out.trans (hS3.mono HB2.out.size)
    obtain⟨_,f0,f1,f2,f3,_,_⟩:=aF (Below.refl _ w3) hx5
    have HX5:=aa hx5
    clear hx5 hS3 hX5 HX5 HJ2 HB2
    go_wp2_with fail
    exact⟨rfl,by rw[HP.out.2];rfl,by rw[HP.out.1];exact HJ3.out⟩
   have HDE:=aa hdec
   have hone:=oB (uy hvr)
   obtain⟨kk,la,ln,lc,hL,hcase⟩:=hvr.show
   have hone':(#[.int .i64 kk,.int .i64 (bk v),.string (aw (aI v)),.slice la ln lc]:Array Value).all (·.oneCell')=true:=kr
   simp only[List.cons.injEq,and_true]at hL
   obtain⟨rfl,rfl,rfl,rfl⟩:=hL
   have HONE:=aa hone'
   have HCASE:=aa hcase
   clear hone hone' hvr hdec hcase
   go_upto_region 4 with (refine wpList_store_row rfl 88 (.tmp 5) (.tmp 17) rfl w2.heap.size #[.int .i64 kk,.int .i64 (bk v),.string (aw (aI v)),.slice la ln lc] ?e1 ?e2 88 #[.int .i64 0,.int .i64 0,.string ⟨#[]⟩,.slice none 0 0] (heap_alloc_new w2 _) (aS (.int .i64 kk) (.int .i64 (bk v)) (.string (aw (aI v))) (.slice la ln lc)) rfl HONE.out ?_;(case e1=>rfl);(case e2=>rfl))
   have hx5:ac ((w2.alloc (.cells #[.int .i64 0,.int .i64 0,.string ⟨#[]⟩,.slice none 0 0] 88)).setRow w2.heap.size #[.int .i64 kk,.int .i64 (bk v),.string (aw (aI v)),.slice la ln lc]) w2.heap.size 88 [.int .i64 kk,.int .i64 (bk v),.string (aw (aI v)),.slice la ln lc]:=setRow_heap _ _ _ _ _ _ (heap_alloc_new w2 _)
   have hS3:Below w2.heap.size w2 ((w2.alloc (.cells #[.int .i64 0,.int .i64 0,.string ⟨#[]⟩,.slice none 0 0] 88)).setRow w2.heap.size #[.int .i64 kk,.int .i64 (bk v),.string (aw (aI v)),.slice la ln lc]):=bf _ _ _
   generalize (w2.alloc (.cells #[.int .i64 0,.int .i64 0,.string ⟨#[]⟩,.slice none 0 0] 88)).setRow w2.heap.size #[.int .i64 kk,.int .i64 (bk v),.string (aw (aI v)),.slice la ln lc]=w3 at *
   obtain⟨X5,hX5⟩:=zg w2.heap.size
   rw[<-hX5]at hx5 ⊢
   have HJ3:Hid (J pre w3):=HG.out _ _ _ HJ2.out hS3
   have HB3:Hid (Below w0.heap.size w0 w3):=HB2.out.trans (hS3.mono HB2.out.size)
   obtain⟨_,f0,f1,f2,f3,_,_⟩:=aF (Below.refl _ w3) hx5
   have HX5:=aa hx5
   have HS3:=aa hS3
   have HX5E:=aa hX5
   clear hx5 hS3 hX5 HJ2 HB2 HONE
   rcases HCASE.out with ⟨hk1,m,rfl⟩|⟨hk2,t,rfl⟩|⟨hk3,l,d',rfl,hd',hln,hls⟩
   ·have hrl:=mQ HDE.out
    have HP:Hid ((aK rs).1=pre/\(aK rs).2=false):=by
     have h9:=dm HRK.out
     rw[hrl]at h9
     exact⟨by rw[HL1.out,h9];simp,by rw[HL2.out,h9]⟩
    have g1:((kk:Int) != 3)=true:=by rw[hk1];rfl
    clear hrl hk1 HCASE f1 f2
    go_wp2_with fail
    exact⟨rfl,by rw[HP.out.2];rfl,by rw[HP.out.1];exact HJ3.out⟩
   ·have hrl:=lR HDE.out
    have HP:Hid ((aK rs).1=pre/\(aK rs).2=false):=by
     have h9:=dm HRK.out
     rw[hrl]at h9
     exact⟨by rw[HL1.out,h9];simp,by rw[HL2.out,h9]⟩
    have g1:((kk:Int) != 3)=true:=by rw[hk2];rfl
    clear hrl hk2 HCASE f1 f2
    go_wp2_with fail
    exact⟨rfl,by rw[HP.out.2];rfl,by rw[HP.out.1];exact HJ3.out⟩
   have g1:((kk:Int) != 3)=false:=by rw[hk3];rfl
   by_cases h4:ln=4
   rotate_left
   ·have hrl:=mR HDE.out om
    have HP:Hid ((aK rs).1=pre/\(aK rs).2=false):=by
     have h9:=dm HRK.out
     rw[hrl]at h9
     exact⟨by rw[HL1.out,h9];simp,by rw[HL2.out,h9]⟩
    have g2:((ln:Int) != 4)=true:=by simp;omega
    clear hrl hk3 HCASE f1 f2 hls hln hd' h4
    go_wp2_with fail
    exact⟨rfl,by rw[HP.out.2];rfl,by rw[HP.out.1];exact HJ3.out⟩
   subst h4
   have g2:(((4:Nat):Int) != 4)=false:=rfl
   obtain⟨p,q,r3,s,rfl⟩:∃p q r3 s,l=[p,q,r3,s]:=by
    match l,hln with
    | [p,q,r3,s],_=>exact⟨p,q,r3,s,rfl⟩
   obtain⟨g,go,rfl,c0,c1,c2,c3,hi0,hi1⟩:=uC hls
   have HREC:=aa (lQ HDE.out)
   have HTX:=aa (mt HDE.out s (by simp))
   have HIJ:Hid (bQ (bk p)/\bQ (bk q)):=⟨hi0,hi1⟩
   have HC0:=aa (ag HS3.out c0)
   have HC1:=aa (ag HS3.out c1)
   have HC2:=aa (ag HS3.out c2)
   have HC3:=aa (ag HS3.out c3)
   have c10:=HC2.out
   clear hls hln hd' hk3 HCASE HDE c0 c1 c2 c3 hi0 hi1 f1 f2
   by_cases h32:(aI r3).length=32
   rotate_left
   ·have hrl:aP r=none:=by rw[HREC.out,if_neg (fun h=>h32 h.1)]
    have HP:Hid ((aK rs).1=pre/\(aK rs).2=false):=by
     have h9:=dm HRK.out
     rw[hrl]at h9
     exact⟨by rw[HL1.out,h9];simp,by rw[HL2.out,h9]⟩
    have g3:(((aw (aI r3)).size:Int) != 32)=true:=by rw[fA];simp;omega
    clear hrl h32
    go_wp2_with fail
    exact⟨rfl,by rw[HP.out.2];rfl,by rw[HP.out.1];exact HJ3.out⟩
   have g3:(((aw (aI r3)).size:Int) != 32)=false:=by rw[fA];simp;omega
   have H32:=aa h32
   clear h32
   obtain⟨x,hxe⟩:∃x:ar,x=⟨bk p,bk q,aI r3,aI s⟩:=⟨_,rfl⟩
   obtain⟨n2,hn2⟩:∃n,(aI s).length=n:=⟨_,rfl⟩
   have HXE:=aa hxe
   have HN2:=aa hn2
   have HXP:Hid (x.prev.length=32):=by rw[hxe];exact H32.out
   clear hxe hn2
   go_upto_region 6 with (fail)
   clear g1 g2 g3 f0 f3 c10
   try simp only[Act.put,zp]
   go_cut [7] (fun s7 wx=>∃(X7:Nat) (da:Option Addr) (dn dc:Nat),s7=.pointer (some ⟨X7,0,none⟩)/\ac wx X7 50 (ah x da dn dc)/\dn<=dc/\dq wx da dn x.data/\Below w3.heap.size w3 wx)
   case first =>
    have hS:Below w3.heap.size w3 (World.drew w3):=(Below.refl _ w3).drew
    refine bA (fun W=>Below w3.heap.size w3 W) kr ?_
    change aW _ _ _ _ _ _ #[false,false,false,false,false,false,false,false,false,false,false,false,false,false,false,false,false,false,false,false,false,false,false,false,false,false,false] _ (World.drew w3)
    have hx0s:=hS.size
    generalize World.drew w3=x0 at *
    refine ay 0 42 (.pointer (some ⟨X5,3,none⟩)) rfl hS ?_
    simp only[Act.put,zp]
    refine aZ 1 43 (.slice (some ⟨g,go,none⟩) 4 lc) rfl (fun W h=>fj (.tmp 42) kr ⟨X5,3,none⟩ kr ((ac.cell (HX5.out.below h HX5.out.lt) 3).trans rfl)) hS ?_
    simp only[Act.put,zp]
    refine ay 2 44 (.pointer (some ⟨g,go,none⟩)) rfl hS ?_
    simp only[Act.put,zp]
    refine ay 3 45 (.pointer (some ⟨g,go+1,none⟩)) rfl hS ?_
    simp only[Act.put,zp]
    refine aZ 4 46 (.int .i64 (bk p)) rfl (fun W h=>mq (.tmp 45) kr ⟨g,go+1,none⟩ kr (ag h HC0.out)) hS ?_
    simp only[Act.put,zp]
    refine ay 5 47 (.pointer (some ⟨X5,3,none⟩)) rfl hS ?_
    simp only[Act.put,zp]
    refine aZ 6 48 (.slice (some ⟨g,go,none⟩) 4 lc) rfl (fun W h=>fj (.tmp 47) kr ⟨X5,3,none⟩ kr ((ac.cell (HX5.out.below h HX5.out.lt) 3).trans rfl)) hS ?_
    simp only[Act.put,zp]
    refine ay 7 49 (.pointer (some ⟨g,go+4,none⟩)) rfl hS ?_
    simp only[Act.put,zp]
    refine ay 8 50 (.pointer (some ⟨g,go+5,none⟩)) rfl hS ?_
    simp only[Act.put,zp]
    refine aZ 9 51 (.int .i64 (bk q)) rfl (fun W h=>mq (.tmp 50) kr ⟨g,go+5,none⟩ kr (ag h HC1.out)) hS ?_
    simp only[Act.put,zp]
    refine ay 10 52 (.pointer (some ⟨X5,3,none⟩)) rfl hS ?_
    simp only[Act.put,zp]
    refine aZ 11 53 (.slice (some ⟨g,go,none⟩) 4 lc) rfl (fun W h=>fj (.tmp 52) kr ⟨X5,3,none⟩ kr ((ac.cell (HX5.out.below h HX5.out.lt) 3).trans rfl)) hS ?_
    simp only[Act.put,zp]
    refine ay 12 54 (.pointer (some ⟨g,go+8,none⟩)) rfl hS ?_
    simp only[Act.put,zp]
    refine ay 13 55 (.pointer (some ⟨g,go+10,none⟩)) rfl hS ?_
    simp only[Act.put,zp]
    refine aZ 14 56 (.string (aw (aI r3))) rfl (fun W h=>ms (.tmp 55) kr ⟨g,go+10,none⟩ kr (ag h HC2.out)) hS ?_
    simp only[Act.put,zp]
    refine ay 18 60 (.pointer (some ⟨X5,3,none⟩)) rfl hS ?_
    simp only[Act.put,zp]
    refine aZ 19 61 (.slice (some ⟨g,go,none⟩) 4 lc) rfl (fun W h=>fj (.tmp 60) kr ⟨X5,3,none⟩ kr ((ac.cell (HX5.out.below h HX5.out.lt) 3).trans rfl)) hS ?_
    simp only[Act.put,zp]
    refine ay 20 62 (.pointer (some ⟨g,go+12,none⟩)) rfl hS ?_
    simp only[Act.put,zp]
    refine ay 21 63 (.pointer (some ⟨g,go+14,none⟩)) rfl hS ?_
    simp only[Act.put,zp]
    refine aZ 22 64 (.string (aw (aI s))) rfl (fun W h=>ms (.tmp 63) kr ⟨g,go+14,none⟩ kr (ag h HC3.out)) hS ?_
    simp only[Act.put,zp]
    refine uE 15 23 25 kr rfl rfl rfl kr kr kr ?_ ?_ ?_
    ·skip
     obtain⟨y1,c1,hrun,hU,hN1,_,hzy1⟩:=gK (aI r3) 32 H32.out x0
     refine aO _ (dQ (.tmp 56) kr kr hrun) ?_
     obtain⟨N1,hN1e⟩:=zg x0.heap.size
     rw[<-hN1e]at hN1 ⊢
     have hS:=hS.trans (hU.mono hS.size)
     refine⟨hS,?_⟩
     try simp only[Act.put,zP]
     clear hU
     have hSS:=And.intro hS hN1
     refine fI (S':=fun W=>Below w3.heap.size w3 W/\Sl 1 ai W (some ⟨N1,0,none⟩) 32 (aI r3)) (fun W h=>h.1) ?_
     refine aZ 16 58 (.pointer (some ⟨N1,0,none⟩)) rfl (fun W h=>by kernel_rfl) hSS ?_
     simp only[Act.put,zp]
     refine aZ 17 59 (br (aI r3)) rfl (fun W h=>aH 48 (.tmp 58) kr N1 0 kr (af (aI r3)) _ (gy h.2) Tryz.underlying48 rfl (iW H32.out)) hSS ?_
     simp only[Act.put,zp]
     refine fJ 23 25 kr rfl rfl kr kr ?_ ?_
     ·skip
      obtain⟨y2,c2,hrun,hU,hsl,hc2,hzy2⟩:=fK (aI s) n2 HN2.out y1
      refine aO _ (dQ (.tmp 64) kr kr hrun) ?_
      obtain⟨N2,hN2e⟩:=zg y1.heap.size
      rw[<-hN2e]at hsl ⊢
      have hN2:dq y2 (some ⟨N2,0,none⟩) n2 x.data:=by rw[HXE.out];exact hsl
      have hSS:=And.intro (hS.trans (hU.mono hS.size)) (hSS.2.below ai.keeps hU)
      have hS:=hS.trans (hU.mono hS.size)
      refine⟨hSS,?_⟩
      try simp only[Act.put,zP]
      clear hU
      refine aZ 24 66 (.agg (ah x (some ⟨N2,0,none⟩) n2 c2).toArray) rfl (fun W h=>dJ (.tmp 46) (.tmp 51) (.tmp 59) (.tmp 65) kr x HXP.out _ _ _ (by rw[HXE.out];kernel_rfl) (by rw[HXE.out];kernel_rfl) (by rw[HXE.out];kernel_rfl) kr) hSS ?_
      simp only[Act.put,zp]
      refine aU 25 kr rfl kr ?_
      obtain⟨y3,hy3⟩:=zg (y2.alloc (.cells zH 50))
      refine aO (w':=y3) (.pointer (some ⟨y2.heap.size,0,none⟩)) (by rw[hy3];kernel_rfl) ?_
      have hU:Below y2.heap.size y2 y3:=by rw[hy3];exact(Below.refl _ _).alloc (Nat.le_refl _) _
      have hN7:y3.heap[y2.heap.size]? = some (.cells zH 50 (0,0)):=by rw[hy3];exact ak _ rfl
      have hzy3:y3.heap.size=y2.heap.size+1:=by rw[hy3];simp
      obtain⟨N7,hN7e⟩:=zg y2.heap.size
      rw[<-hN7e]at hN7 ⊢
      clear hy3
      have hSS:=And.intro (hS.trans (hU.mono hS.size)) (hSS.2.below ai.keeps hU)
      have hN2:=hN2.below hU
      have hS:=hS.trans (hU.mono hS.size)
      refine⟨hSS,?_⟩
      try simp only[Act.put,zP]
      clear hU
      have hn17:N1≠N7:=om
      have hn27:N2≠N7:=om
      have hN7s:w3.heap.size<=N7:=by have:=hx0s;omega
      refine aU 26 kr rfl kr ?_
      refine wp_store_row 50 (.tmp 7) (.tmp 66) kr N7 (ah x (some ⟨N2,0,none⟩) n2 c2).toArray kr kr 50 _ hN7 (ei HXP.out _ _ _) (by have h9:=bh HXP.out (some ⟨N2,0,none⟩) n2 c2;show 35=_;rw[List.size_toArray,h9]) (bM x _ _ _) ?_
      clear hN1e hN2e hN7e hzy1 hzy2 hzy3 hx0s
      have hfin:=below_setRow hS hN7s (ah x (some ⟨N2,0,none⟩) n2 c2).toArray
      refine⟨⟨hfin,Sl.other hSS.2 hn17 _⟩,?_⟩
      try simp only[Act.put,zP]
      have hdat:dq (y3.setRow N7 (ah x (some ⟨N2,0,none⟩) n2 c2).toArray) (some ⟨N2,0,none⟩) n2 x.data:=dq.other hN2 hn27 _
      have hro:ac (y3.setRow N7 (ah x (some ⟨N2,0,none⟩) n2 c2).toArray) N7 50 (ah x (some ⟨N2,0,none⟩) n2 c2):=setRow_heap _ _ _ _ _ _ hN7
      refine bp kr ?_
      go_wp2_with fail
      go_meet
      exact⟨N7,some ⟨N2,0,none⟩,n2,c2,rfl,hro,hc2,hdat,hfin⟩
     ·skip
      obtain⟨y4,hy4⟩:=zg (y1.alloc (.cells zH 50))
      refine aO (w':=y4) (.pointer (some ⟨y1.heap.size,0,none⟩)) (by rw[hy4];kernel_rfl) ?_
      have hU:Below y1.heap.size y1 y4:=by rw[hy4];exact(Below.refl _ _).alloc (Nat.le_refl _) _
      have hN7:y4.heap[y1.heap.size]? = some (.cells zH 50 (0,0)):=by rw[hy4];exact ak _ rfl
      have hzy4:y4.heap.size=y1.heap.size+1:=by rw[hy4];simp
      obtain⟨N7,hN7e⟩:=zg y1.heap.size
      rw[<-hN7e]at hN7 ⊢
      clear hy4
      have hSS:=And.intro (hS.trans (hU.mono hS.size)) (hSS.2.below ai.keeps hU)
      have hS:=hS.trans (hU.mono hS.size)
      refine⟨hSS,?_⟩
      try simp only[Act.put,zP]
      clear hU
      refine aU 23 kr rfl kr ?_
      obtain⟨y5,c2,hrun,hU,hsl,hc2,hzy5⟩:=fK (aI s) n2 HN2.out y4
      refine aO _ (dQ (.tmp 64) kr kr hrun) ?_
      obtain⟨N2,hN2e⟩:=zg y4.heap.size
      rw[<-hN2e]at hsl ⊢
      have hN2:dq y5 (some ⟨N2,0,none⟩) n2 x.data:=by rw[HXE.out];exact hsl
      have hSS:=And.intro (hS.trans (hU.mono hS.size)) (hSS.2.below ai.keeps hU)
      have hN7:=(hU.block _ (lt_of_block hN7)).trans hN7
      have hS:=hS.trans (hU.mono hS.size)
      refine⟨hSS,?_⟩
      try simp only[Act.put,zP]
      clear hU
      refine aZ 24 66 (.agg (ah x (some ⟨N2,0,none⟩) n2 c2).toArray) rfl (fun W h=>dJ (.tmp 46) (.tmp 51) (.tmp 59) (.tmp 65) kr x HXP.out _ _ _ (by rw[HXE.out];kernel_rfl) (by rw[HXE.out];kernel_rfl) (by rw[HXE.out];kernel_rfl) kr) hSS ?_
      simp only[Act.put,zp]
      have hn17:N1≠N7:=om
      have hn27:N2≠N7:=om
      have hN7s:w3.heap.size<=N7:=by have:=hx0s;omega
      refine aU 26 kr rfl kr ?_
      refine wp_store_row 50 (.tmp 7) (.tmp 66) kr N7 (ah x (some ⟨N2,0,none⟩) n2 c2).toArray kr kr 50 _ hN7 (ei HXP.out _ _ _) (by have h9:=bh HXP.out (some ⟨N2,0,none⟩) n2 c2;show 35=_;rw[List.size_toArray,h9]) (bM x _ _ _) ?_
      clear hN1e hN2e hN7e hzy1 hzy4 hzy5 hx0s
      have hfin:=below_setRow hS hN7s (ah x (some ⟨N2,0,none⟩) n2 c2).toArray
      refine⟨⟨hfin,Sl.other hSS.2 hn17 _⟩,?_⟩
      try simp only[Act.put,zP]
      have hdat:dq (y5.setRow N7 (ah x (some ⟨N2,0,none⟩) n2 c2).toArray) (some ⟨N2,0,none⟩) n2 x.data:=dq.other hN2 hn27 _
      have hro:ac (y5.setRow N7 (ah x (some ⟨N2,0,none⟩) n2 c2).toArray) N7 50 (ah x (some ⟨N2,0,none⟩) n2 c2):=setRow_heap _ _ _ _ _ _ hN7
      refine bp kr ?_
      go_wp2_with fail
      go_meet
      exact⟨N7,some ⟨N2,0,none⟩,n2,c2,rfl,hro,hc2,hdat,hfin⟩
    ·skip
     obtain⟨y6,c2,hrun,hU,hsl,hc2,hzy6⟩:=fK (aI s) n2 HN2.out x0
     refine aO _ (dQ (.tmp 64) kr kr hrun) ?_
     obtain⟨N2,hN2e⟩:=zg x0.heap.size
     rw[<-hN2e]at hsl ⊢
     have hN2:dq y6 (some ⟨N2,0,none⟩) n2 x.data:=by rw[HXE.out];exact hsl
     have hS:=hS.trans (hU.mono hS.size)
     refine⟨hS,?_⟩
     try simp only[Act.put,zP]
     clear hU
     refine fJ 15 25 kr rfl rfl kr kr ?_ ?_
     ·skip
      obtain⟨y7,c1,hrun,hU,hN1,_,hzy7⟩:=gK (aI r3) 32 H32.out y6
      refine aO _ (dQ (.tmp 56) kr kr hrun) ?_
      obtain⟨N1,hN1e⟩:=zg y6.heap.size
      rw[<-hN1e]at hN1 ⊢
      have hN2:=hN2.below hU
      have hS:=hS.trans (hU.mono hS.size)
      refine⟨hS,?_⟩
      try simp only[Act.put,zP]
      clear hU
      have hSS:=And.intro hS hN1
      refine fI (S':=fun W=>Below w3.heap.size w3 W/\Sl 1 ai W (some ⟨N1,0,none⟩) 32 (aI r3)) (fun W h=>h.1) ?_
      refine aZ 16 58 (.pointer (some ⟨N1,0,none⟩)) rfl (fun W h=>by kernel_rfl) hSS ?_
      simp only[Act.put,zp]
      refine aZ 17 59 (br (aI r3)) rfl (fun W h=>aH 48 (.tmp 58) kr N1 0 kr (af (aI r3)) _ (gy h.2) Tryz.underlying48 rfl (iW H32.out)) hSS ?_
      simp only[Act.put,zp]
      refine aZ 24 66 (.agg (ah x (some ⟨N2,0,none⟩) n2 c2).toArray) rfl (fun W h=>dJ (.tmp 46) (.tmp 51) (.tmp 59) (.tmp 65) kr x HXP.out _ _ _ (by rw[HXE.out];kernel_rfl) (by rw[HXE.out];kernel_rfl) (by rw[HXE.out];kernel_rfl) kr) hSS ?_
      simp only[Act.put,zp]
      refine aU 25 kr rfl kr ?_
      obtain⟨y8,hy8⟩:=zg (y7.alloc (.cells zH 50))
      refine aO (w':=y8) (.pointer (some ⟨y7.heap.size,0,none⟩)) (by rw[hy8];kernel_rfl) ?_
      have hU:Below y7.heap.size y7 y8:=by rw[hy8];exact(Below.refl _ _).alloc (Nat.le_refl _) _
      have hN7:y8.heap[y7.heap.size]? = some (.cells zH 50 (0,0)):=by rw[hy8];exact ak _ rfl
      have hzy8:y8.heap.size=y7.heap.size+1:=by rw[hy8];simp
      obtain⟨N7,hN7e⟩:=zg y7.heap.size
      rw[<-hN7e]at hN7 ⊢
      clear hy8
      have hSS:=And.intro (hS.trans (hU.mono hS.size)) (hSS.2.below ai.keeps hU)
      have hN2:=hN2.below hU
      have hS:=hS.trans (hU.mono hS.size)
      refine⟨hSS,?_⟩
      try simp only[Act.put,zP]
      clear hU
      have hn17:N1≠N7:=om
      have hn27:N2≠N7:=om
      have hN7s:w3.heap.size<=N7:=by have:=hx0s;omega
      refine aU 26 kr rfl kr ?_
      refine wp_store_row 50 (.tmp 7) (.tmp 66) kr N7 (ah x (some ⟨N2,0,none⟩) n2 c2).toArray kr kr 50 _ hN7 (ei HXP.out _ _ _) (by have h9:=bh HXP.out (some ⟨N2,0,none⟩) n2 c2;show 35=_;rw[List.size_toArray,h9]) (bM x _ _ _) ?_
      clear hN1e hN2e hN7e hzy6 hzy7 hzy8 hx0s
      have hfin:=below_setRow hS hN7s (ah x (some ⟨N2,0,none⟩) n2 c2).toArray
      refine⟨⟨hfin,Sl.other hSS.2 hn17 _⟩,?_⟩
      try simp only[Act.put,zP]
      have hdat:dq (y8.setRow N7 (ah x (some ⟨N2,0,none⟩) n2 c2).toArray) (some ⟨N2,0,none⟩) n2 x.data:=dq.other hN2 hn27 _
      have hro:ac (y8.setRow N7 (ah x (some ⟨N2,0,none⟩) n2 c2).toArray) N7 50 (ah x (some ⟨N2,0,none⟩) n2 c2):=setRow_heap _ _ _ _ _ _ hN7
      refine bp kr ?_
      go_wp2_with fail
      go_meet
      exact⟨N7,some ⟨N2,0,none⟩,n2,c2,rfl,hro,hc2,hdat,hfin⟩
     ·skip
      obtain⟨y9,hy9⟩:=zg (y6.alloc (.cells zH 50))
      refine aO (w':=y9) (.pointer (some ⟨y6.heap.size,0,none⟩)) (by rw[hy9];kernel_rfl) ?_
      have hU:Below y6.heap.size y6 y9:=by rw[hy9];exact(Below.refl _ _).alloc (Nat.le_refl _) _
      have hN7:y9.heap[y6.heap.size]? = some (.cells zH 50 (0,0)):=by rw[hy9];exact ak _ rfl
      have hzy9:y9.heap.size=y6.heap.size+1:=by rw[hy9];simp
      obtain⟨N7,hN7e⟩:=zg y6.heap.size
      rw[<-hN7e]at hN7 ⊢
      clear hy9
      have hN2:=hN2.below hU
      have hS:=hS.trans (hU.mono hS.size)
      refine⟨hS,?_⟩
      try simp only[Act.put,zP]
      clear hU
      refine aU 15 kr rfl kr ?_
      obtain⟨y10,c1,hrun,hU,hN1,_,hzy10⟩:=gK (aI r3) 32 H32.out y9
      refine aO _ (dQ (.tmp 56) kr kr hrun) ?_
      obtain⟨N1,hN1e⟩:=zg y9.heap.size
      rw[<-hN1e]at hN1 ⊢
      have hN2:=hN2.below hU
      have hN7:=(hU.block _ (lt_of_block hN7)).trans hN7
      have hS:=hS.trans (hU.mono hS.size)
      refine⟨hS,?_⟩
      try simp only[Act.put,zP]
      clear hU
      have hSS:=And.intro hS hN1
      refine fI (S':=fun W=>Below w3.heap.size w3 W/\Sl 1 ai W (some ⟨N1,0,none⟩) 32 (aI r3)) (fun W h=>h.1) ?_
      refine aZ 16 58 (.pointer (some ⟨N1,0,none⟩)) rfl (fun W h=>by kernel_rfl) hSS ?_
      simp only[Act.put,zp]
      refine aZ 17 59 (br (aI r3)) rfl (fun W h=>aH 48 (.tmp 58) kr N1 0 kr (af (aI r3)) _ (gy h.2) Tryz.underlying48 rfl (iW H32.out)) hSS ?_
      simp only[Act.put,zp]
      refine aZ 24 66 (.agg (ah x (some ⟨N2,0,none⟩) n2 c2).toArray) rfl (fun W h=>dJ (.tmp 46) (.tmp 51) (.tmp 59) (.tmp 65) kr x HXP.out _ _ _ (by rw[HXE.out];kernel_rfl) (by rw[HXE.out];kernel_rfl) (by rw[HXE.out];kernel_rfl) kr) hSS ?_
      simp only[Act.put,zp]
      have hn17:N1≠N7:=om
      have hn27:N2≠N7:=om
      have hN7s:w3.heap.size<=N7:=by have:=hx0s;omega
      refine aU 26 kr rfl kr ?_
      refine wp_store_row 50 (.tmp 7) (.tmp 66) kr N7 (ah x (some ⟨N2,0,none⟩) n2 c2).toArray kr kr 50 _ hN7 (ei HXP.out _ _ _) (by have h9:=bh HXP.out (some ⟨N2,0,none⟩) n2 c2;show 35=_;rw[List.size_toArray,h9]) (bM x _ _ _) ?_
      clear hN1e hN2e hN7e hzy6 hzy9 hzy10 hx0s
      have hfin:=below_setRow hS hN7s (ah x (some ⟨N2,0,none⟩) n2 c2).toArray
      refine⟨⟨hfin,Sl.other hSS.2 hn17 _⟩,?_⟩
      try simp only[Act.put,zP]
      have hdat:dq (y10.setRow N7 (ah x (some ⟨N2,0,none⟩) n2 c2).toArray) (some ⟨N2,0,none⟩) n2 x.data:=dq.other hN2 hn27 _
      have hro:ac (y10.setRow N7 (ah x (some ⟨N2,0,none⟩) n2 c2).toArray) N7 50 (ah x (some ⟨N2,0,none⟩) n2 c2):=setRow_heap _ _ _ _ _ _ hN7
      refine bp kr ?_
      go_wp2_with fail
      go_meet
      exact⟨N7,some ⟨N2,0,none⟩,n2,c2,rfl,hro,hc2,hdat,hfin⟩
    ·skip
     obtain⟨y11,hy11⟩:=zg (x0.alloc (.cells zH 50))
     refine aO (w':=y11) (.pointer (some ⟨x0.heap.size,0,none⟩)) (by rw[hy11];kernel_rfl) ?_
     have hU:Below x0.heap.size x0 y11:=by rw[hy11];exact(Below.refl _ _).alloc (Nat.le_refl _) _
     have hN7:y11.heap[x0.heap.size]? = some (.cells zH 50 (0,0)):=by rw[hy11];exact ak _ rfl
     have hzy11:y11.heap.size=x0.heap.size+1:=by rw[hy11];simp
     obtain⟨N7,hN7e⟩:=zg x0.heap.size
     rw[<-hN7e]at hN7 ⊢
     clear hy11
     have hS:=hS.trans (hU.mono hS.size)
     refine⟨hS,?_⟩
     try simp only[Act.put,zP]
     clear hU
     refine fJ 15 23 kr rfl rfl kr kr ?_ ?_
     ·skip
      obtain⟨y12,c1,hrun,hU,hN1,_,hzy12⟩:=gK (aI r3) 32 H32.out y11
      refine aO _ (dQ (.tmp 56) kr kr hrun) ?_
      obtain⟨N1,hN1e⟩:=zg y11.heap.size
      rw[<-hN1e]at hN1 ⊢
      have hN7:=(hU.block _ (lt_of_block hN7)).trans hN7
      have hS:=hS.trans (hU.mono hS.size)
      refine⟨hS,?_⟩
      try simp only[Act.put,zP]
      clear hU
      have hSS:=And.intro hS hN1
      refine fI (S':=fun W=>Below w3.heap.size w3 W/\Sl 1 ai W (some ⟨N1,0,none⟩) 32 (aI r3)) (fun W h=>h.1) ?_
      refine aZ 16 58 (.pointer (some ⟨N1,0,none⟩)) rfl (fun W h=>by kernel_rfl) hSS ?_
      simp only[Act.put,zp]
      refine aZ 17 59 (br (aI r3)) rfl (fun W h=>aH 48 (.tmp 58) kr N1 0 kr (af (aI r3)) _ (gy h.2) Tryz.underlying48 rfl (iW H32.out)) hSS ?_
      simp only[Act.put,zp]
      refine aU 23 kr rfl kr ?_
      obtain⟨y13,c2,hrun,hU,hsl,hc2,hzy13⟩:=fK (aI s) n2 HN2.out y12
      refine aO _ (dQ (.tmp 64) kr kr hrun) ?_
      obtain⟨N2,hN2e⟩:=zg y12.heap.size
      rw[<-hN2e]at hsl ⊢
      have hN2:dq y13 (some ⟨N2,0,none⟩) n2 x.data:=by rw[HXE.out];exact hsl
      have hSS:=And.intro (hS.trans (hU.mono hS.size)) (hSS.2.below ai.keeps hU)
      have hN7:=(hU.block _ (lt_of_block hN7)).trans hN7
      have hS:=hS.trans (hU.mono hS.size)
      refine⟨hSS,?_⟩
      try simp only[Act.put,zP]
      clear hU
      refine aZ 24 66 (.agg (ah x (some ⟨N2,0,none⟩) n2 c2).toArray) rfl (fun W h=>dJ (.tmp 46) (.tmp 51) (.tmp 59) (.tmp 65) kr x HXP.out _ _ _ (by rw[HXE.out];kernel_rfl) (by rw[HXE.out];kernel_rfl) (by rw[HXE.out];kernel_rfl) kr) hSS ?_
      simp only[Act.put,zp]
      have hn17:N1≠N7:=om
      have hn27:N2≠N7:=om
      have hN7s:w3.heap.size<=N7:=by have:=hx0s;omega
      refine aU 26 kr rfl kr ?_
      refine wp_store_row 50 (.tmp 7) (.tmp 66) kr N7 (ah x (some ⟨N2,0,none⟩) n2 c2).toArray kr kr 50 _ hN7 (ei HXP.out _ _ _) (by have h9:=bh HXP.out (some ⟨N2,0,none⟩) n2 c2;show 35=_;rw[List.size_toArray,h9]) (bM x _ _ _) ?_
      clear hN1e hN2e hN7e hzy11 hzy12 hzy13 hx0s
      have hfin:=below_setRow hS hN7s (ah x (some ⟨N2,0,none⟩) n2 c2).toArray
      refine⟨⟨hfin,Sl.other hSS.2 hn17 _⟩,?_⟩
      try simp only[Act.put,zP]
      have hdat:dq (y13.setRow N7 (ah x (some ⟨N2,0,none⟩) n2 c2).toArray) (some ⟨N2,0,none⟩) n2 x.data:=dq.other hN2 hn27 _
      have hro:ac (y13.setRow N7 (ah x (some ⟨N2,0,none⟩) n2 c2).toArray) N7 50 (ah x (some ⟨N2,0,none⟩) n2 c2):=setRow_heap _ _ _ _ _ _ hN7
      refine bp kr ?_
      go_wp2_with fail
      go_meet
      exact⟨N7,some ⟨N2,0,none⟩,n2,c2,rfl,hro,hc2,hdat,hfin⟩
     ·skip
      obtain⟨y14,c2,hrun,hU,hsl,hc2,hzy14⟩:=fK (aI s) n2 HN2.out y11
      refine aO _ (dQ (.tmp 64) kr kr hrun) ?_
      obtain⟨N2,hN2e⟩:=zg y11.heap.size
      rw[<-hN2e]at hsl ⊢
      have hN2:dq y14 (some ⟨N2,0,none⟩) n2 x.data:=by rw[HXE.out];exact hsl
      have hN7:=(hU.block _ (lt_of_block hN7)).trans hN7
      have hS:=hS.trans (hU.mono hS.size)
      refine⟨hS,?_⟩
      try simp only[Act.put,zP]
      clear hU
      refine aU 15 kr rfl kr ?_
      obtain⟨y15,c1,hrun,hU,hN1,_,hzy15⟩:=gK (aI r3) 32 H32.out y14
      refine aO _ (dQ (.tmp 56) kr kr hrun) ?_
      obtain⟨N1,hN1e⟩:=zg y14.heap.size
      rw[<-hN1e]at hN1 ⊢
      have hN2:=hN2.below hU
      have hN7:=(hU.block _ (lt_of_block hN7)).trans hN7
      have hS:=hS.trans (hU.mono hS.size)
      refine⟨hS,?_⟩
      try simp only[Act.put,zP]
      clear hU
      have hSS:=And.intro hS hN1
      refine fI (S':=fun W=>Below w3.heap.size w3 W/\Sl 1 ai W (some ⟨N1,0,none⟩) 32 (aI r3)) (fun W h=>h.1) ?_
      refine aZ 16 58 (.pointer (some ⟨N1,0,none⟩)) rfl (fun W h=>by kernel_rfl) hSS ?_
      simp only[Act.put,zp]
      refine aZ 17 59 (br (aI r3)) rfl (fun W h=>aH 48 (.tmp 58) kr N1 0 kr (af (aI r3)) _ (gy h.2) Tryz.underlying48 rfl (iW H32.out)) hSS ?_
      simp only[Act.put,zp]
      refine aZ 24 66 (.agg (ah x (some ⟨N2,0,none⟩) n2 c2).toArray) rfl (fun W h=>dJ (.tmp 46) (.tmp 51) (.tmp 59) (.tmp 65) kr x HXP.out _ _ _ (by rw[HXE.out];kernel_rfl) (by rw[HXE.out];kernel_rfl) (by rw[HXE.out];kernel_rfl) kr) hSS ?_
      simp only[Act.put,zp]
      have hn17:N1≠N7:=om
      have hn27:N2≠N7:=om
      have hN7s:w3.heap.size<=N7:=by have:=hx0s;omega
      refine aU 26 kr rfl kr ?_
      refine wp_store_row 50 (.tmp 7) (.tmp 66) kr N7 (ah x (some ⟨N2,0,none⟩) n2 c2).toArray kr kr 50 _ hN7 (ei HXP.out _ _ _) (by have h9:=bh HXP.out (some ⟨N2,0,none⟩) n2 c2;show 35=_;rw[List.size_toArray,h9]) (bM x _ _ _) ?_
      clear hN1e hN2e hN7e hzy11 hzy14 hzy15 hx0s
      have hfin:=below_setRow hS hN7s (ah x (some ⟨N2,0,none⟩) n2 c2).toArray
      refine⟨⟨hfin,Sl.other hSS.2 hn17 _⟩,?_⟩
      try simp only[Act.put,zP]
      have hdat:dq (y15.setRow N7 (ah x (some ⟨N2,0,none⟩) n2 c2).toArray) (some ⟨N2,0,none⟩) n2 x.data:=dq.other hN2 hn27 _
      have hro:ac (y15.setRow N7 (ah x (some ⟨N2,0,none⟩) n2 c2).toArray) N7 50 (ah x (some ⟨N2,0,none⟩) n2 c2):=setRow_heap _ _ _ _ _ _ hN7
      refine bp kr ?_
      go_wp2_with fail
      go_meet
      exact⟨N7,some ⟨N2,0,none⟩,n2,c2,rfl,hro,hc2,hdat,hfin⟩
   case rest =>
    obtain⟨X7,da,dn,dc,rfl,hx7,hdc,hda,hBc⟩:=hcut
    obtain⟨E,hE⟩:∃E,aL (cM x)=E:=⟨_,rfl⟩
    have HI:Hid (bQ x.node/\bQ x.no):=by rw[HXE.out];exact HIJ.out
    have hxd:x.data.length<=100000:=by rw[HXE.out];exact Nat.le_trans HTX.out HRL.out
    have HRE:=aa (oF x da dn dc wc HXP.out HI.out.1 HI.out.2 hda.1 hxd E hE)
    have HRCM:Hid (aP r=if E=r then some x else none):=by
     rw[Hid,HREC.out,<-HXE.out,hE]
     by_cases hq:E=r
     ·rw[if_pos ⟨H32.out,hq⟩,if_pos hq]
     ·rw[if_neg (fun h=>hq h.2),if_neg hq]
    have HJ4:Hid (J pre wc):=HG.out _ _ _ HJ3.out hBc
    have HB4:Hid (Below w0.heap.size w0 wc):=HB3.out.trans (hBc.mono HB3.out.size)
    have HX7:=aa hx7
    have HDA:=aa hda
    have HDC:=aa hdc
    clear hx7 hdc hda hBc hE hxd HJ3 HB3 HX5 HS3 HC0 HC1 HC2 HC3 HREC HIJ HTX
    go_wp2_with (refine aG (.agg (ah x da dn dc).toArray) rfl (aH 50 (.tmp 7) rfl X7 0 rfl (ah x da dn dc) _ (ac.range HX7.out) Tryz.underlying50 rfl (ej HXP.out da dn dc)) ?_;simp only[Act.put,zp])
    refine HRE.out.mono ?_
    rintro e w5 ⟨⟨va,vc,rfl,hown⟩,hS5⟩
    obtain⟨_,_,hse⟩:=d8 (R:=ai) hown E rfl (fun i x hx=>⟨_,cd hx,rfl⟩)
    have HB5:Hid (Below w0.heap.size w0 w5):=HB4.out.trans (hS5.mono HB4.out.size)
    have HEQ:=iA va E.length vc E ra rn rc r w5 hse (HSL.out.below ai.keeps HB5.out)
    obtain⟨eb,heb⟩:=zg ((E == r))
    rw[<-heb]at HEQ
    have HEQ:=aa HEQ
    have HEB:=aa heb
    have HJ5:Hid (J pre w5):=HG.out _ _ _ HJ4.out hS5
    have HX75:=aa (HX7.out.below hS5 HX7.out.lt)
    have HDA5:=aa (HDA.out.below hS5)
    clear hown hS5 hse heb HRE HJ4 HB4 HX7 HDA
    go_wp2_with fail
    refine HEQ.out.mono ?_
    rintro e w6 ⟨rfl,rfl⟩
    clear HEQ
    cases eb
    case false =>
     have hrl:aP r=none:=by rw[HRCM.out,if_neg (by have:=HEB.out;simpa using this.symm)]
     have HP:Hid ((aK rs).1=pre/\(aK rs).2=false):=by
      have h9:=dm HRK.out
      rw[hrl]at h9
      exact⟨by rw[HL1.out,h9];simp,by rw[HL2.out,h9]⟩
     clear hrl
     go_wp2_with fail
     exact⟨rfl,by rw[HP.out.2];rfl,by rw[HP.out.1];exact HJ5.out⟩
    case true =>
     have hrl:aP r=some x:=by rw[HRCM.out,if_pos (by have:=HEB.out;simpa using this.symm)]
     have HP:Hid ((aK rs).1=pre++x::(aK (rs.drop (k+1))).1/\(aK rs).2=(aK (rs.drop (k+1))).2):=by
      have h9:=dm HRK.out
      rw[hrl]at h9
      exact⟨by rw[HL1.out,h9],by rw[HL2.out,h9]⟩
     obtain⟨fn,tmps,assign,body,hy,hRd⟩:=HY.out pre ⟨x,da,dn,dc⟩ x _ w5 HP.out.1 HJ5.out ⟨rfl,HXP.out,HI.out,HDC.out,HDA5.out⟩
     simp only[uD]at hy
     have HRd:=aa hRd
     clear hrl hRd
     go_upto_region 9 with (fail)
     refine wpIn_wide.1 (?_:Code.wpIn Fence.wide n' Tryz.prog _ _ _ _)
     refine wpIn_region_lit ?_
     refine ky lH (.func (.yield lp) #[] #[]) kr kr kr ?_
     simp only[Act.put,zp]
     refine ky lH (.agg (ah x da dn dc).toArray) kr kr (aH 50 (.tmp 7) kr X7 0 kr (ah x da dn dc) _ (ac.range HX75.out) Tryz.underlying50 rfl (ej HXP.out da dn dc)) ?_
     simp only[Act.put,zp]
     gi_wp2
     refine⟨fun hf=>(by simp[Fence.wide]at hf),HRd.out.mono ?_⟩
     rintro e w7 ⟨rfl,hJ7,hk7⟩
     have HJ7:=aa hJ7
     have HB7:Hid (Below w0.heap.size w0 w7):=HB5.out.trans hk7
     have hkn:=HKN.out
     clear hJ7 hk7 hy
     gi_wp2
     go_wp2_with fail
     go_roundw
     case rel=>exact⟨k+1,pre++[x],om,by go_num,by rw[HP.out.1];simp,HP.out.2,HJ7.out,HB7.out⟩
     case measure=>simp[intOf];omega
  ·obtain rfl:k=n:=om
   have HE:Hid ((aK rs).1=pre/\(aK rs).2=true):=by
    have h9:=oG (rs:=rs) (k:=k) (by rw[HLEN.out];exact Nat.le_refl _)
    exact⟨by rw[HL1.out,h9];simp,by rw[HL2.out,h9]⟩
   go_wp2_with fail
   refine bodyPost_end (by simp[results,Tryz.results100,go_sem];try rfl) rfl ?_
   exact⟨by rw[HE.out.2];exact⟨_,rfl⟩,by rw[HE.out.1];exact HJ.out⟩
end Go.Proofs.YtmflnpdmlfmcpaaGreatDoor.Dr
namespace Go.Proofs.YtmflnpdmlfmcpaaGreatDoor.Dr
open Go.RowKit
theorem AT (u:Nat):eA (dT u)=u:=by
 unfold eA dT
 split<;>split<;>omega
theorem rD : ∀(l:List UInt8) (i u:Nat) (s:List UInt8),1<=i->bv i l=some (u,s)->1<=u
 | [],i,u,s,_,h=>by simp[bv]at h
 | c::r,i,u,s,hi,h=>by
  rw[eT]at h
  split at h
  ·cases h
  ·next hc =>
   split at h
   ·cases h;omega
   ·cases hn:bv (i+1) r with
    | none=>rw[hn]at h;cases h
    | some p =>
     obtain⟨v,t⟩:=p
     rw[hn]at h
     cases h
     have:=rD r (i+1) v _ om hn
     omega
theorem jk (c:UInt8):UInt8.ofNat c.toNat=c:=by simp
theorem lT : ∀(l:List UInt8) (i u:Nat) (s:List UInt8),bv i l=some (u,s)->cB u++s=l
 | [],i,u,s,h=>by simp[bv]at h
 | c::r,i,u,s,h=>by
  rw[eT]at h
  split at h
  ·cases h
  ·split at h
   ·next h8 =>
    cases h
    rw[gU h8,jk]
    rfl
   ·next h8 =>
    cases hn:bv (i+1) r with
    | none=>rw[hn]at h;cases h
    | some p =>
     obtain⟨v,t⟩:=p
     rw[hn]at h
     cases h
     have h1:=rD r (i+1) v _ om hn
     have h2:=lT r (i+1) v _ hn
     have hc:=c.toNat_lt
     rw[jf om,show (c.toNat%128+128*v)%128+128=c.toNat by omega,show (c.toNat%128+128*v)/128=v by omega,jk,List.cons_append,h2]
theorem pY {l s:List UInt8}{n:Nat}(h:cx l=some (n,s)):cB n++s=l/\n<=s.length:=by
 unfold cx at h
 cases hn:bv 0 l with
 | none=>rw[hn]at h;cases h
 | some p =>
  obtain⟨u,t⟩:=p
  rw[hn]at h
  simp only at h
  split at h
  ·next h1=>cases h;exact⟨lT l 0 _ _ hn,h1⟩
  ·cases h
theorem kV {f:List UInt8->Option (aT × List UInt8)}(hf:∀l v s,f l=some (v,s)->aL v++s=l/\bQ (bk v)):∀(n:Nat) (l:List UInt8) (vs:List aT) (t:List UInt8),bj f n l=some (vs,t)->bP vs++t=l/\vs.length=n/\∀v ∈ vs,bQ (bk v)
 | 0,l,vs,t,h=>by
  simp only[bj,Option.some.injEq,Prod.mk.injEq]at h
  obtain⟨rfl,rfl⟩:=h
  exact⟨rfl,rfl,fun v hv=>by cases hv⟩
 | n+1,l,vs,t,h=>by
  simp only[bj]at h
  cases h1:f l with
  | none=>rw[h1]at h;cases h
  | some p =>
   obtain⟨v,s⟩:=p
   rw[h1]at h
   cases h2:bj f n s with
   | none=>simp only[h2]at h;cases h
   | some q =>
    obtain⟨us,t'⟩:=q
    simp only[h2,Option.some.injEq,Prod.mk.injEq]at h
    obtain⟨rfl,rfl⟩:=h
    obtain⟨a1,a2,a3⟩:=kV hf n s us t' h2
    obtain⟨b1,b2⟩:=hf l v s h1
    refine⟨?_,by simp[a2],fun x hx => ?_⟩
    ·simp only[bP,List.append_assoc,a1,b1]
    ·rcases List.mem_cons.1 hx with rfl|hx
     ·exact b2
     ·exact a3 x hx
theorem lU : ∀(d:Nat) (l:List UInt8) (v:aT) (s:List UInt8),aV d l=some (v,s)->aL v++s=l/\bQ (bk v)
 | d,[],v,s,h=>by rw[fG]at h;cases h
 | d,c::r,v,s,h=>by
  have hc:∀k:Nat,c.toNat=k->UInt8.ofNat k=c:=fun k hk=>by rw[<-hk,jk]
  by_cases h1:c.toNat=1
  ·rw[fH d r h1]at h
   cases hn:bv 0 r with
   | none=>rw[hn]at h;cases h
   | some p =>
    obtain⟨u,t⟩:=p
    rw[hn]at h
    cases h
    have h2:=lT r 0 u _ hn
    refine⟨?_,mp (gX hn).1⟩
    simp only[aL,AT,List.cons_append,h2]
    rw[<-hc 1 h1];rfl
  by_cases h2:c.toNat=2
  ·rw[eU d r h2]at h
   cases hn:cx r with
   | none=>rw[hn]at h;cases h
   | some p =>
    obtain⟨u,t⟩:=p
    rw[hn]at h
    cases h
    obtain⟨h3,h4⟩:=pY hn
    refine⟨?_,(show bQ 0 from ⟨by decide,by decide⟩)⟩
    simp only[aL,List.cons_append,List.append_assoc,List.take_append_drop,List.length_take,Nat.min_eq_left h4,h3]
    rw[<-hc 2 h2];rfl
  by_cases h3:c.toNat=3
  ·cases d with
   | zero=>rw[fU r h3]at h;cases h
   | succ d =>
    rw[eV d r h3]at h
    cases hn:cx r with
    | none=>rw[hn]at h;cases h
    | some p =>
     obtain⟨u,t⟩:=p
     rw[hn]at h
     simp only at h
     cases hq:bj (aV d) u t with
     | none=>rw[hq]at h;cases h
     | some q =>
      obtain⟨vs,t'⟩:=q
      rw[hq]at h
      cases h
      obtain⟨h5,h6⟩:=pY hn
      obtain⟨h7,h8,_⟩:=kV (fun l v s hv=>lU d l v s hv) u t vs _ hq
      refine⟨?_,(show bQ 0 from ⟨by decide,by decide⟩)⟩
      simp only[aL,List.cons_append,List.append_assoc,h7,h8,h5]
      rw[<-hc 3 h3];rfl
  ·rw[eD d r h1 h2 h3]at h;cases h
theorem tE {b:List UInt8}{v:aT}(h:ct b=some v):aV 16 b=some (v,[]):=by
 unfold ct at h
 split at h
 ·next w hw=>cases h;exact hw
 ·cases h
theorem BU {b:List UInt8}{v:aT}(h:aV 16 b=some (v,[])):ct b=some v:=by
 unfold ct
 rw[h]
theorem rE {b:List UInt8}{v:aT}(h:ct b=some v):aL v=b:=by
 have:=(lU 16 b v [] (tE h)).1
 rwa [List.append_nil]at this
theorem pw {b:List UInt8}{l:List aT}(h:ct b=some (.list l)):∀v ∈ l,bQ (bk v):=by
 have h:=tE h
 cases b with
 | nil=>rw[fG]at h;cases h
 | cons c r =>
  by_cases h1:c.toNat=1
  ·rw[fH _ r h1]at h
   cases hn:bv 0 r with
   | none=>rw[hn]at h;cases h
   | some p=>obtain⟨u,t⟩:=p;rw[hn]at h;cases h
  by_cases h2:c.toNat=2
  ·rw[eU _ r h2]at h
   cases hn:cx r with
   | none=>rw[hn]at h;cases h
   | some p=>obtain⟨u,t⟩:=p;rw[hn]at h;cases h
  by_cases h3:c.toNat=3
  ·rw[eV 15 r h3]at h
   cases hn:cx r with
   | none=>rw[hn]at h;cases h
   | some p =>
    obtain⟨u,t⟩:=p
    rw[hn]at h
    simp only at h
    cases hq:bj (aV 15) u t with
    | none=>rw[hq]at h;cases h
    | some q =>
     obtain⟨vs,t'⟩:=q
     rw[hq]at h
     cases h
     exact(kV (fun l v s hv=>lU 15 l v s hv) u t _ _ hq).2.2
  ·rw[eD _ r h1 h2 h3]at h;cases h
def fL (b:List UInt8):Option ar:=match ct b with
 | some (.list [.int p,.int q,.text r,.text s])=>if r.length=32 then some ⟨p,q,r,s⟩ else none
 | _=>none
theorem yV {b:List UInt8}(hb:b.length<=1000000):fL b=aP b:=by
 unfold fL aP
 cases hd:ct b with
 | none=>rfl
 | some v =>
  have hE:=rE hd
  match v with
  | .int _=>rfl
  | .text _=>rfl
  | .list []=>rfl
  | .list [_]=>simp
  | .list [_,_]=>simp
  | .list [_,_,_]=>simp
  | .list (_::_::_::_::_::_)=>simp
  | .list [p,q,r,s] =>
   by_cases hc:(aI r).length=32/\aL (cM ⟨bk p,bk q,aI r,aI s⟩)=b
   ·have hn:=pw hd
    have hs:=mt hd s (by simp)
    have h1:=rf (ol (x:=⟨bk p,bk q,aI r,aI s⟩) (hn p (by simp)) (hn q (by simp)) hc.1 (show (aI s).length<_ by omega))
    rw[hc.2,hd]at h1
    generalize bk p=P,bk q=Q,aI r=R,aI s=S at h1 hc ⊢
    simp only[Option.some.injEq,cM,aT.list.injEq,List.cons.injEq,and_true]at h1
    obtain⟨rfl,rfl,rfl,rfl⟩:=h1
    simp only
    rw[if_pos hc.1]
    exact(if_pos hc).symm
   ·simp only
    rw[if_neg hc]
    match p,q,r,s with
    | .int p,.int q,.text r,.text s =>
     simp only
     exact if_neg fun h=>hc ⟨h,hE⟩
    | .text _,_,_,_=>simp
    | .list _,_,_,_=>simp
    | .int _,.text _,_,_=>simp
    | .int _,.list _,_,_=>simp
    | .int _,.int _,.int _,_=>simp
    | .int _,.int _,.list _,_=>simp
    | .int _,.int _,.text _,.int _=>simp
    | .int _,.int _,.text _,.list _=>simp
end Go.Proofs.YtmflnpdmlfmcpaaGreatDoor.Dr
namespace Go.Proofs.YtmflnpdmlfmcpaaGreatDoor.Dr
open Go.RowKit Go.Shelf
attribute [local go_sem] Oper.semAt_some
def dZ : World->List Value->ar->Prop:=fun W vs x=>∃a n c,vs=ah x a n c/\x.prev.length=32/\(bQ x.node/\bQ x.no)/\n<=c/\dq W a n x.data
theorem dZ.link {W:World}{vs:List Value}{x:ar}(h:dZ W vs x):aq W vs x:=by
 obtain⟨a,n,c,h1,h2,h3,h4,h5⟩:=h
 exact⟨a,n,c,h1,h2,h3.1,h3.2,h4,h5.1⟩
def dL (W W':World):Prop:=∀(k:Nat) (cs:Array Value) (fr:Nat × Nat),W.heap[k]? = some (.cells cs 5 fr)->W'.heap[k]? = W.heap[k]?
theorem dq.stay {W W':World}{a:Option Addr}{n:Nat}{l:List UInt8}(h:dq W a n l)(hs:dL W W'):dq W' a n l:=
 h.heap fun ad ha=>by obtain⟨cs,fr,h2⟩:=h.2 ad ha;exact hs _ _ _ h2
theorem dZ.stay {W W':World}{vs:List Value}{x:ar}(h:dZ W vs x)(hs:dL W W'):dZ W' vs x:=by
 obtain⟨a,n,c,h1,h2,h3,h4,h5⟩:=h
 exact⟨a,n,c,h1,h2,h3,h4,h5.stay hs⟩
theorem dr {W W':World}{vs:List Value}{xs:List ar}(h:dW 35 dZ W vs xs)(hs:dL W W'):dW 35 dZ W' vs xs:=
 ⟨h.1,fun i x hx=>by obtain⟨L,h1,h2,h3⟩:=h.2 i x hx;exact⟨L,h1,h2.stay hs,h3⟩⟩
theorem iD {W:World}{vs:List Value}{xs:List ar}(h:dW 35 dZ W vs xs):dW 35 aq W vs xs:=
 ⟨h.1,fun i x hx=>by obtain⟨L,h1,h2,h3⟩:=h.2 i x hx;exact⟨L,h1,h2.link,h3⟩⟩
theorem dL.trans {A B C:World}(h:dL A B)(k:dL B C):dL A C:=fun i cs fr hi=>(k i cs fr ((h i cs fr hi).trans hi)).trans (h i cs fr hi)
theorem dL.below {W W':World}(h:Below W.heap.size W W'):dL W W':=fun i _ _ hi=>h.block i (Array.getElem?_eq_some_iff.1 hi).1
theorem dL.kept {W W':World}(h:CellsKept W W'):dL W W':=fun i cs fr hi=>(h.same i cs _ fr hi).trans hi.symm
theorem dL.grown {W W':World}{row:Option Nat}(h:W.grownBy W' row)(hr:∀k cs fr,W.heap[k]? = some (.cells cs 5 fr)->some k≠row):dL W W':=fun i _ _ hi=>h.block i (Array.getElem?_eq_some_iff.1 hi).1 (hr _ _ _ hi)
theorem rF {W:World}{base:Nat}{size n:Nat}{v:Value}{xs:List Value}(h:W.ownsRow base 50 size v n xs)(k:Nat)(cs:Array Value)(fr:Nat × Nat)(hk:W.heap[k]? = some (.cells cs 5 fr)):some k≠v.ownBlock:=de h hk (by decide)
theorem Ab.stay {W W':World}{v:BS}{y:ar}(h:Ab W v y)(hs:dL W W'):Ab W' v y:=⟨h.1,h.2.1,h.2.2.1,h.2.2.2.1,h.2.2.2.2.stay hs⟩
theorem iP : ∀(rs:List (List UInt8)),(aK rs).1.length<=rs.length
 | []=>Nat.le_refl _
 | r::rs=>by
  have ih:=iP rs
  have h:=dm (rs:=r::rs) (k:=0) (r:=r) rfl
  simp only[List.drop_zero,Nat.zero_add,List.drop_succ_cons]at h
  rw[h]
  cases aP r with
  | none=>simp
  | some x=>simpa using ih
def jl (w:World)(X:Nat)(pre:List ar)(W:World):Prop:=∃va m vc vs,ac W X 30 [.slice va m vc]/\W.ownsRow w.heap.size 50 35 (.slice va m vc) m vs/\dW 35 dZ W vs pre/\Below w.heap.size w W
theorem jl.len {w W:World}{va:Option Addr}{m vc:Nat}{vs:List Value}{pre:List ar}(h1:W.ownsRow w.heap.size 50 35 (.slice va m vc) m vs)(h2:dW 35 dZ W vs pre):m=pre.length:=by
 have:=h1.1;have:=h2.1;omega
end Go.Proofs.YtmflnpdmlfmcpaaGreatDoor.Dr
namespace Go.Proofs.YtmflnpdmlfmcpaaGreatDoor
open Go.RowKit Dr
theorem ac.kept {W W':World}{X:Nat}{t:TypeId}{vs:List Value}(h:ac W X t vs)(hk:Dr.CellsKept W W'):ac W' X t vs:=hk.same _ _ _ _ h
end Go.Proofs.YtmflnpdmlfmcpaaGreatDoor
namespace Go.Proofs.YtmflnpdmlfmcpaaGreatDoor.Dr
open Go.RowKit Go.Shelf
theorem rG {w W:World}{base:Nat}{e:TypeId}{size n:Nat}{v:Value}{xs:List Value}(h:w.ownsRow base e size v n xs)(hW:CellsKept w W):W.ownsRow base e size v n xs:=by
 obtain⟨h1,h2⟩:=h
 refine⟨h1,?_⟩
 rcases h2 with h2|⟨g,cap,cur,rfl,h3,h4,h5⟩
 ·exact .inl h2
 ·exact .inr ⟨g,cap,cur,rfl,h3,hW.same _ _ _ _ h4,h5⟩
theorem jl.kept {w W W':World}{X:Nat}{pre:List ar}(h:jl w X pre W)(hk:CellsKept W W')(hB:Below w.heap.size W W'):jl w X pre W':=by
 obtain⟨va,m,vc,vs,h0,h1,h2,h3⟩:=h
 exact⟨va,m,vc,vs,h0.kept hk,rG h1 hk,dr h2 (.kept hk),h3.trans hB⟩
theorem AU {o:Oper}{a:Act}{W:World}(x:Operand)(ho:o.op=.load 30 x)(p:Addr){v:Value}(hx:a.eval x=.pointer (some p))(hc:W.cell? p=some v):(execOp a.eval o).run Tryz.prog W=.ok (.value v) W:=by
 unfold execOp
 simp only[ho,hx]
 go_simp
theorem tF : ∃i:TypeInfo,Tryz.prog.info? 50=some i/\i.zero=some (.agg zH)/\i.size=35/\i.bytes<=1000:=by
 have h:=(by kernel_rfl:(Tryz.prog.info? 50).map (fun i=>(i.zero,i.size,decide (i.bytes<=1000)))=some (some (.agg zH),35,true))
 cases hq:Tryz.prog.info? 50 with
 | none=>rw[hq]at h;cases h
 | some i =>
  rw[hq]at h
  simp only[Option.map_some,Option.some.injEq,Prod.mk.injEq,decide_eq_true_eq]at h
  exact⟨i,rfl,h.1,h.2.1,h.2.2⟩
theorem fV {W:World}{X:Nat}{t:TypeId}{v:Value}(h:ac W X t [v]):W.frozen? ⟨X,0,none⟩=false:=by unfold ac at h;simp[World.frozen?,h]
theorem tG {w:World}{base:Nat}{e:TypeId}{size n:Nat}{v:Value}{xs:List Value}(h:w.ownsRow base e size v n xs){k:Nat}(hk:v.ownBlock=some k):∃cs,w.heap[k]? = some (.cells cs e (0,0)):=by
 rcases h.2 with ⟨rfl,_⟩|⟨g,cap,cur,rfl,_,hh,_⟩
 ·simp[Value.ownBlock]at hk
 ·simp only[Value.ownBlock,Option.some.injEq]at hk
  subst hk
  exact⟨cur,hh⟩
theorem sN {W W1 W':World}{B Bo:Nat}{e:TypeId}{size n:Nat}{v:Value}{xs:List Value}(hB:Below W.heap.size W W1)(hg:W1.grownBy W' v.ownBlock)(h:W.ownsRow Bo e size v n xs):KeepsFrom B W W':=
 ⟨Nat.le_trans hB.size hg.size,fun k o _ hk ho=>by
  have hlt:=(Array.getElem?_eq_some_iff.1 hk).1
  refine(hg.block k (Nat.lt_of_lt_of_le hlt hB.size) fun e1 => ?_).trans ((hB.block k hlt).trans hk)
  obtain⟨cs,h1⟩:=tG h e1.symm
  rw[h1]at hk
  cases hk
  cases ho⟩
def py (base:Nat)(e:Ending)(w:World)(r:List ar × Bool):Prop:=(r.2=true/\∃va n vc vs,e=.returned (.slice va n vc)/\w.ownsRow base 50 35 (.slice va n vc) n vs/\dW 35 dZ w vs r.1)\/(r.2=false/\e=.panicked [kx])
theorem wT (n:Nat)(hn3:3<=n)(w0:World)(X a rn rc)(rs:List (List UInt8))(w:World)(hA:Below w0.heap.size w0 w)(hX:w.cell? ⟨X,0,none⟩=some (.slice a rn rc))(hn:rn<=100000)(h:Sl 1 gG w0 a rn rs)(hd:∀r ∈ rs,r.length<=100000) :
  CallsIn Fence.wide n Tryz.prog 99 #[.slice none 0 0,.func (.func 100) #[] #[.pointer (some ⟨X,0,none⟩)]] w fun e w'=>py w.heap.size e w' (aK rs)/\Below w.heap.size w w':=by
 have h1:1<=n:=om
 have hro:Fence.wide.round=none:=rfl
 have h71:Fence.wide.fn 100:=trivial
 have HLEN:=aa h.1
 have H:=aa h
 have HX:=aa hX
 have HA:=aa hA
 have HD:=aa hd
 clear h hX hA hd
 refine callsIn_of_wp_marks Tryz.func99 rfl trivial ?_ hro
 simp only[Tryz.ntmps99,List.size_toArray,List.length_cons,List.length_nil,Nat.reduceAdd,Nat.reduceSub,Array.replicate_succ,Array.replicate_zero,List.push_toArray,List.append_toArray,List.nil_append,List.cons_append]
 gi_wp2_with fail
 obtain⟨wb,hwb⟩:=zg (w.alloc (.cells #[.slice none 0 0] 30))
 have hx0:ac wb w.heap.size 30 [.slice none 0 0]:=by rw[hwb];exact heap_alloc_new w _
 have hBb:Below w.heap.size w wb:=by rw[hwb];exact(Below.refl _ w).alloc (Nat.le_refl _) _
 have hsz:wb.heap.size=w.heap.size+1:=by rw[hwb];simp
 rw[<-hwb]
 clear hwb
 have HX1:=aa (ag hBb HX.out)
 obtain⟨X2,hX2⟩:=zg w.heap.size
 rw[<-hX2]at hx0 ⊢
 have HX2:=aa hX2
 clear hX2
 have hAb:Below w0.heap.size w0 wb:=HA.out.trans (hBb.mono HA.out.size)
 have hs0:=HA.out.size
 refine mB hro h1 (gf:=100) (lb:=#[.pointer (some ⟨X,0,none⟩)]) rfl h71 (enters_of Tryz.func100 kr rfl)
  (wS (n-1) w0 wb X a rn rc rs hAb HX1.out hn H.out HD.out) (fun h k=>Below.trans h k) (fun W l o o' hl hW h2 h3=>belowK_b (w:=wb) (n₀:=w0.heap.size) om W l o o' om hW h2 h3) (fun W W' hs hb=>hb.mono om) (Below.refl _ _) (fun _=>rfl)
  (jl w X2) (fun s W W' hi hk hb=>hi.kept hk (hb.mono om)) (fun x y W W' hr hk=>hr.stay (.kept hk)) ⟨none,0,0,[],hx0,World.ownsRow_nil _ _ _ _,⟨rfl,fun i x hx=>by simp at hx⟩,hBb⟩
  (fun x a' W=>∃X5,wb.heap.size<=X5/\ac W X5 50 (ah x.x x.a x.n x.c)/\a'={ tmps:=#[.slice none 0 0,.func (.func 100) #[] #[.pointer (some ⟨X,0,none⟩)],.pointer (some ⟨X2,0,none⟩),undef,.slice none 0 0,.pointer (some ⟨X5,0,none⟩),.func (.func 100) #[] #[.pointer (some ⟨X,0,none⟩)],.agg (ah x.x x.a x.n x.c).toArray,undef,undef,undef,undef,undef],defers:=[] })
  (fun x a' W W' ⟨X5,q1,q2,q3⟩ hk=>⟨X5,q1,q2.kept hk,q3⟩)
  ?assign ?body ?done ?pan
 case assign =>
  rintro lp v y W K hr hsw hK
  have HK:=aa hK
  obtain⟨rfl,hp,hi,hvc,hdat⟩:=hr
  clear hK
  obtain⟨L,hL⟩:=zg (ah v.x v.a v.n v.c)
  have hf35:L.length=35:=by rw[hL];exact bh hp _ _ _
  have HONE:Hid (L.toArray.all (·.oneCell')=true):=by rw[hL];exact bM _ _ _ _
  have HI58:Hid ((Tryz.prog.info? 50).map (·.size)=some L.toArray.size):=by show _=_;rw[List.size_toArray,hf35];exact jg
  have H35:Hid (35=L.toArray.size):=by show _=_;rw[List.size_toArray,hf35]
  have HLL:=aa hL
  simp only[uD]
  rw[<-hL]
  rw[<-hL]at HK
  clear hL hf35 hp hi hvc hdat
  refine fT (eY lp) kr (fun ⟨_,_,hq⟩=>hq) ?_
  go_wp2_with (refine wpList_store_row rfl 50 (.tmp 5) (.tmp 7) rfl W.heap.size L.toArray ?e2 ?e3 50 zH (heap_alloc_new W _) HI58.out ?e4 HONE.out ?_;(case e2=>rfl);(case e3=>rfl);(case e4=>exact H35.out))
  have hx2:ac ((W.alloc (.cells zH 50)).setRow W.heap.size L.toArray) W.heap.size 50 L:=setRow_heap _ _ _ _ _ _ (heap_alloc_new W _)
  have hS2:Below W.heap.size W ((W.alloc (.cells zH 50)).setRow W.heap.size L.toArray):=bf _ _ _
  generalize (W.alloc (.cells zH 50)).setRow W.heap.size L.toArray=V at *
  simp only[Act.put]
  exact HK.out _ _ hS2 ⟨W.heap.size,hsw,hx2,rfl⟩
 case body =>
  rintro lp pre v y post a' W hys ⟨va,m,vc,vs,q0,q1,q2,q3⟩ hr ⟨X5,g1,g2,rfl⟩
  obtain⟨rfl,hp,hi,hvc,hdat⟩:=hr
  have hm:=jl.len q1 q2
  have hm1:m<100000:=by
   have e1:=iP rs
   have e2:=HLEN.out
   rw[hys]at e1
   simp at e1
   omega
  clear hm
  have hsw:=q3.size
  have c2:W.cell? ⟨X2,0,none⟩=some (.slice va m vc):=ac.cell q0 0
  have hlk:dZ W (ah v.x v.a v.n v.c) v.x:=⟨v.a,v.n,v.c,rfl,hp,hi,hvc,hdat⟩
  obtain⟨xx,xa,xn,xc⟩:=v
  simp only at hp hi hvc hdat hlk g2 ⊢
  have Q0:=aa q0
  have Q1:=aa q1
  have Q2:=aa q2
  have Q3:=aa q3
  have G2:=aa g2
  have HP:=aa hp
  have HLK:=aa hlk
  clear q0 q1 q2 q3 g2 hp hlk hdat hi
  have hx2:X2=w.heap.size:=HX2.out
  obtain⟨i58,hi58,hz58,hs58,hb58⟩:=tF
  refine wpIn_block ?_
  refine fT (eY lp) kr (by rintro⟨_,_,hq⟩;exact hq) ?_
  refine fX (.slice va m vc) (AU (.tmp 2) kr ⟨X2,0,none⟩ kr c2) ?_
  simp only[Act.put,zp]
  refine fX (.agg (ah xx xa xn xc).toArray) (aH 50 (.tmp 5) kr X5 0 kr (ah xx xa xn xc) _ (ac.range G2.out) Tryz.underlying50 rfl (ej HP.out xa xn xc)) ?_
  simp only[Act.put,zp]
  refine wpList_plain rfl fun K hK=>aO _ (gW (.tmp 9) kr xx HP.out xa xn xc kr) (hK _ _ ?_)
  simp only[Act.put,zp]
  have hone:∀u ∈ ah xx xa xn xc,u.oneCell'=true:=iO _ _ _ HLK.out.link
  have hBc:=(Below.refl _ W).alloc (Nat.le_refl _) (.cells (ah xx xa xn xc).toArray 50)
  refine gV rfl (.tmp 8) (.tmp 10) 30 kr w.heap.size 50 i58 _ 35 i58.bytes Tryz.underlying30 hi58 hz58 hs58 rfl rfl (by decide) (.slice va m vc) m vs kr (Q1.out.alloc _) ⟨W.heap.size,0,none⟩ 1 1 (ah xx xa xn xc) kr (by rw[bh HP.out]) ?c1 hone (by unfold maxLen;omega) ?c2 (by simp;omega) ?_
  case c1 =>
   intro j u hu
   rw[Addr.add_lit,Nat.zero_add,dz _ _ rfl]
   simpa using hu
  case c2 =>
   have h2:=Nat.mul_le_mul (show m+1<=100000 by omega) hb58
   omega
  intro va9 vc9 w9 hown9 hg9 _
  simp only[Act.put,zp]
  have hne9:some X2≠(Value.slice va m vc).ownBlock:=de Q1.out Q0.out (by decide)
  have hx9:ac w9 X2 30 [.slice va m vc]:=bx (ac.alloc Q0.out _) hg9 hne9
  have c9:w9.cell? ⟨X2,0,none⟩=some (.slice va m vc):=ac.cell hx9 0
  have f9:=fV hx9
  have hst:dL W (w9.setCell ⟨X2,0,none⟩ (.slice va9 (m+1) vc9)):=fun k cs fr hk=>by
   have hkX:k≠X2:=by
    rintro rfl
    have:=Q0.out
    unfold ac at this
    rw[hk]at this
    cases this
   exact(Below.heap_setCell _ _ _ k (by simpa using hkX)).trans ((hg9.block k (by have:=lt_of_block hk;simp;omega) (rF Q1.out k cs fr hk)).trans (Below.heap_alloc _ _ k (lt_of_block hk)))
  have hlW:W.heap.size<=w9.heap.size:=by have:=hg9.size;simp at this;omega
  have hBg:Below w.heap.size W w9:=(hBc.mono Q3.out.size).grown hg9 (by simp;omega) (fun g hg=>(Q1.out.lt g hg).1)
  have hkf:KeepsFrom wb.heap.size W (w9.setCell ⟨X2,0,none⟩ (.slice va9 (m+1) vc9)):=(sN hBc hg9 Q1.out).trans ((KeepsOthers.setCell _ _ _).from _)
  have hB0:Below w0.heap.size W (w9.setCell ⟨X2,0,none⟩ (.slice va9 (m+1) vc9)):=(hBg.setCell (p:=⟨X2,0,none⟩) (by show w.heap.size<=X2;omega) _).mono om
  have hBw:Below w.heap.size W (w9.setCell ⟨X2,0,none⟩ (.slice va9 (m+1) vc9)):=hBg.setCell (p:=⟨X2,0,none⟩) (by show w.heap.size<=X2;omega) _
  have hI9:jl w X2 (pre++[xx]) (w9.setCell ⟨X2,0,none⟩ (.slice va9 (m+1) vc9)):=by
   refine⟨va9,m+1,vc9,vs++ah xx xa xn xc,one_setCell hx9,cZ hown9 (fun g hg=>Below.heap_setCell _ _ _ g ?_),(dr Q2.out hst).snoc (bh HP.out _ _ _) (HLK.out.stay hst),Q3.out.trans hBw⟩
   rintro rfl
   exact de hown9 hx9 (by decide) hg.symm
  have HKF:=aa hkf
  have HB0:=aa hB0
  have HI9:=aa hI9
  clear hown9 hg9 hne9 hst hBg hkf hB0 hBw hI9 hx2 hx9 hBc hone hsz
  go_wp2
  exact⟨HKF.out,HB0.out,HI9.out⟩
 case done =>
  rintro D W hD hpc ⟨va,m,vc,vs,q0,q1,q2,q3⟩ hK
  have c2:W.cell? ⟨X2,0,none⟩=some (.slice va m vc):=ac.cell q0 0
  have HOK:Hid ((aK rs).2=true):=by
   unfold uB at hpc
   show (aK rs).2=true
   cases hb:(aK rs).2
   ·rw[hb]at hpc;cases hpc
   ·rfl
  have Q1:=aa q1
  have Q2:=aa q2
  have Q3:=aa q3
  have HK:=aa hK
  clear q0 q1 q2 q3 hK hpc
  gi_wp2
  have hck:CellsKept W (W.putObj D (.deferred none)):=.putObj W _ HK.out rfl
  refine⟨by simp,.inl ⟨_,_,rfl,run_takeDeferred HK.out,?_⟩⟩
  refine⟨.slice va m vc,?_,.inl ⟨HOK.out,va,m,vc,vs,rfl,rG Q1.out hck,dr Q2.out (.kept hck)⟩,Q3.out.trans (belowK_b (w:=w) (Nat.le_refl _) W D _ (.deferred none) om HK.out rfl rfl)⟩
  simp[results,Tryz.f99,go_sem]
 case pan =>
  rintro D W c hD hpc ⟨va,m,vc,vs,q0,q1,q2,q3⟩ hK
  have HOK:(aK rs).2=false/\c=[kx]:=by
   unfold uB at hpc
   cases hb:(aK rs).2
   ·rw[hb]at hpc;cases hpc;exact⟨rfl,rfl⟩
   ·rw[hb]at hpc;cases hpc
  obtain⟨hb,rfl⟩:=HOK
  refine⟨by simp,.inl ⟨_,_,rfl,run_takeDeferred hK,?_⟩⟩
  exact⟨.inr ⟨hb,rfl⟩,q3.trans (belowK_b (w:=w) (Nat.le_refl _) W D _ (.deferred none) om hK rfl rfl)⟩
theorem append_any (X a rn rc)(rs:List (List UInt8))(w0 w:World)(hA:Below w0.heap.size w0 w)(hX:w.cell? ⟨X,0,none⟩=some (.slice a rn rc))(hn:rn<=100000)(h:Sl 1 gG w0 a rn rs)(hd:∀r ∈ rs,r.length<=100000) :
  Calls Tryz.prog 99 #[.slice none 0 0,.func (.func 100) #[] #[.pointer (some ⟨X,0,none⟩)]] w fun e w'=>py w.heap.size e w' (aK rs)/\Below w.heap.size w w':=callsIn_wide.1 (wT 3 (Nat.le_refl _) w0 X a rn rc rs w hA hX hn h hd)
theorem sO (X a rn rc)(rs:List (List UInt8))(w0 w:World)(hA:Below w0.heap.size w0 w)(hX:w.cell? ⟨X,0,none⟩=some (.slice a rn rc))(hn:rn<=100000)(h:Sl 1 gG w0 a rn rs)(hd:∀r ∈ rs,r.length<=100000) :
  Calls Tryz.prog 59 #[.func (.func 100) #[] #[.pointer (some ⟨X,0,none⟩)]] w fun e w'=>py w.heap.size e w' (aK rs)/\Below w.heap.size w w':=by
 have HC:=aa (append_any X a rn rc rs w0 w hA hX hn h hd)
 clear hA hX hn h hd
 go_enter Tryz.func59,Tryz.ntmps59
 go_wp2_with fail
 refine HC.out.mono ?_
 rintro e w1 ⟨(⟨hb,va,n,vc,vs,rfl,hvc,hs⟩|⟨hb,rfl⟩),hB⟩
 ·have HS:=aa hs
  have HB:=aa hB
  have HBB:=aa hb
  clear HC hs hB hb
  go_wp2_with fail
  refine bodyPost_ret (by simp[results,Tryz.results59,go_sem];try rfl) rfl ?_
  exact⟨.inl ⟨HBB.out,va,n,vc,vs,rfl,hvc,HS.out⟩,HB.out⟩
 ·have HB:=aa hB
  have HBB:=aa hb
  clear HC hB hb
  go_wp2_with fail
  exact⟨rfl,.inr ⟨HBB.out,rfl⟩,HB.out⟩
theorem pZ (X2 X3:Nat)(w:World) :
  CallsD Tryz.prog 58 #[.pointer (some ⟨X2,0,none⟩),.pointer (some ⟨X3,0,none⟩)] .returning w fun e u' w'=>e=.returned (.tuple #[])/\u'=.returning/\w'=w:=by
 have hq:∀w,(binOp .neq 20 .nilIface .nilIface).run Tryz.prog w=.ok (.bool false) w:=fun _=>by kernel_rfl
 refine callsD_of_wpS Tryz.func58 rfl fun c₀ cs hu => ?_
 apply wpS_seq
 apply wpS_region
 simp[wpOpsS,go_sem,recoverD,hu,Tryz.ntmps58,Exit.thenS]
 refine wpS_of_wp ?_
 change Code.wp _ _ _ { tmps:=#[.pointer (some ⟨X2,0,none⟩),.pointer (some ⟨X3,0,none⟩),.nilIface,undef,undef,.nilIface,undef,undef,undef,undef,undef,undef,undef,undef,undef,undef,undef],defers:=[] } w
 go_wp2
 cases c₀
 simp_all [bodyPostS,results,Tryz.results58]
theorem yW (X2 X3:Nat)(older:List PanicEntry)(w:World){v u:Value}(h2:ac w X2 30 [v])(h3:ac w X3 31 [u])(hne:X2≠X3) :
  CallsD Tryz.prog 58 #[.pointer (some ⟨X2,0,none⟩),.pointer (some ⟨X3,0,none⟩)] (.panicking (kx::older)) w fun e u' w' =>
   e=.returned (.tuple #[])/\u'=.panicking ({ kx with recovered:=true }::older)/\(ac w' X2 30 [.slice none 0 0]/\ac w' X3 31 [.int .i64 500]/\∀B,B<=X2->B<=X3->Below B w w'):=by
 have hq:∀w,(binOp .neq 20 (.iface 31 (.int .i64 500)) .nilIface).run Tryz.prog w=.ok (.bool true) w:=fun _=>by kernel_rfl
 have ht:∀w,(Instr.typeAssert (.iface 31 (.int .i64 500)) 20 31 true).run Tryz.prog w=.ok (.tuple #[.int .i64 500,.bool true]) w:=fun _=>by kernel_rfl
 refine callsD_of_wpS Tryz.func58 rfl fun c₀ cs hu => ?_
 apply wpS_seq
 apply wpS_region
 simp[wpOpsS,go_sem,recoverD,hu,Tryz.ntmps58,Exit.thenS,kx]
 refine wpS_of_wp ?_
 change Code.wp _ _ _ { tmps:=#[.pointer (some ⟨X2,0,none⟩),.pointer (some ⟨X3,0,none⟩),.iface 31 (.int .i64 500),undef,undef,.iface 31 (.int .i64 500),undef,undef,undef,undef,undef,undef,undef,undef,undef,undef,undef],defers:=[] } w
 have H2:=aa h2
 have H3:=aa h3
 have f0:w.cell? ⟨X2,0,none⟩=some v:=by have:=ac.cell h2 0;simpa using this
 have fz:w.frozen? ⟨X2,0,none⟩=false:=fV h2
 have g0:w.cell? ⟨X3,0,none⟩=some u:=by have:=ac.cell h3 0;simpa using this
 have gz:w.frozen? ⟨X3,0,none⟩=false:=fV h3
 clear h2 h3
 go_wp2
 have e2:ac (w.setCell ⟨X2,0,none⟩ (.slice none 0 0)) X2 30 [.slice none 0 0]:=one_setCell H2.out
 have e3:ac (w.setCell ⟨X2,0,none⟩ (.slice none 0 0)) X3 31 [u]:=H3.out.setCell (p:=⟨X2,0,none⟩) hne.symm _
 have hfin:ac ((w.setCell ⟨X2,0,none⟩ (.slice none 0 0)).setCell ⟨X3,0,none⟩ (.int .i64 500)) X2 30 [.slice none 0 0]/\ac ((w.setCell ⟨X2,0,none⟩ (.slice none 0 0)).setCell ⟨X3,0,none⟩ (.int .i64 500)) X3 31 [.int .i64 500]/\∀B,B<=X2->B<=X3->Below B w ((w.setCell ⟨X2,0,none⟩ (.slice none 0 0)).setCell ⟨X3,0,none⟩ (.int .i64 500)):=
  ⟨ac.setCell (p:=⟨X3,0,none⟩) e2 hne _,one_setCell e3,fun B h1 h2=>((Below.refl B w).setCell (p:=⟨X2,0,none⟩) h1 _).setCell (p:=⟨X3,0,none⟩) h2 _⟩
 clear e2 e3 H2 H3 f0 fz g0 gz
 generalize (w.setCell ⟨X2,0,none⟩ (.slice none 0 0)).setCell ⟨X3,0,none⟩ (.int .i64 500)=w9 at *
 cases c₀
 show bodyPostS Tryz.prog Tryz.f58 _ _ _ _ _ _ _
 simp[bodyPostS,results,Tryz.results58]
 exact hfin
end Go.Proofs.YtmflnpdmlfmcpaaGreatDoor.Dr
