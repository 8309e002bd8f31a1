/- Joined texts. -/
import Derived.Test.YtmflnpdmlfmcpaaGreatDoorJp11
set_option maxRecDepth 100000
set_option maxHeartbeats 4000000
namespace Go.Proofs.YtmflnpdmlfmcpaaGreatDoor
open Go.RowKit
variable {Nz : Nat}
theorem uQ (ad:Addr)(n c:Nat)(w:World)(h:n<=c) :
  Calls Tryz.prog 43 #[.slice (some ad) n c] w fun e w'=>e=.returned (.slice (some ad) n n)/\w=w':=by
 go_enter Tryz.func43,Tryz.ntmps43
 go_wp2
 go_ret
 exact⟨rfl,rfl⟩
theorem uR (c:Nat)(w:World):Calls Tryz.prog 43 #[.slice none 0 c] w fun e w'=>e=.returned (.slice none 0 0)/\w=w':=by
 go_enter Tryz.func43,Tryz.ntmps43
 go_wp2
 go_ret
 exact⟨rfl,rfl⟩
theorem uS (a:Option Addr)(n c:Nat)(b:List UInt8)(w:World)(hn:n<=1000000)(h:Sl 1 ai w a n b) :
  Calls Tryz.prog 44 #[.slice a n c] w fun e w'=>(∃va vc,e=.returned (.slice va n vc)/\w'.ownsRow w.heap.size 5 1 (.slice va n vc) n (af b))/\Below w.heap.size w w':=by
 obtain⟨hl,h0,hc,h1⟩:=bV h
 have HL:=aa h.len
 clear h
 cases a with
 | none =>
  obtain rfl:=h0 rfl
  have he:∀w:World,(binOp .eql 40 (.slice none 0 c) (.slice none 0 0)).run Tryz.prog w=.ok (.bool true) w:=fun _=>rfl
  clear hl h0 hc h1
  go_enter Tryz.func44,Tryz.ntmps44
  go_wp2
  go_ret
  exact⟨⟨_,_,rfl,by rw[List.eq_nil_of_length_eq_zero HL.out];exact World.ownsRow_nil _ _ _ _⟩,Below.refl _ _⟩
 | some ad =>
  have he:∀w:World,(binOp .eql 40 (.slice (some ad) n c) (.slice none 0 0)).run Tryz.prog w=.ok (.bool false) w:=fun _=>rfl
  obtain⟨i0,hi,hz0,hz1,hz2⟩:=info_parts jv
  obtain⟨ws,hws⟩:=zg (af b)
  rw[<-hws]at hl hc h1 ⊢
  have HW:=aa hl
  have H1:=aa h1
  have hc1:Hid (∀x,∀ad',some ad=some ad'->∀j u,ws[j]? = some u->(w.alloc x).cell? (ad'.add j)=some u):=fun x ad' e j u hu=>by cases e;exact ag ((Below.refl _ _).alloc (Nat.le_refl _) _) (hc ad rfl j u hu)
  clear hc h0 hws hl h1
  go_enter Tryz.func44,Tryz.ntmps44
  go_wp2_with (at_builtin;refine aD rfl (.tmp 5) (.tmp 6) 40 rfl w.heap.size 5 i0 (.int .u8 0) 1 1 Tryz.underlying40 hi hz0 hz1 hz2 rfl (by decide) (.slice (some ⟨w.heap.size,0,none⟩) 0 0) 0 [] rfl ?c0 (some ad) n c ws rfl HW.out (fun h=>by cases h) (hc1.out _) H1.out ?c3 ?c4 ?c5 ?_;rotate_right;intro va vc w2 hown hgrow)
  case c0=>exact⟨rfl,.inr ⟨w.heap.size,0,#[],rfl,Nat.le_refl _,ak _ rfl,Nat.le_refl _,by unfold maxLen;omega,rfl,rfl⟩⟩
  case c3=>unfold maxLen;omega
  case c4=>omega
  case c5=>simp
  go_ret
  rw[Nat.zero_add,List.nil_append]at hown
  exact⟨⟨_,_,rfl,hown⟩,((Below.refl _ w).alloc (Nat.le_refl _) _).grown hgrow (by simp) (fun k e=>by cases e;exact Nat.le_refl _)⟩
end Go.Proofs.YtmflnpdmlfmcpaaGreatDoor
namespace Go.Proofs.YtmflnpdmlfmcpaaGreatDoor
open Go.RowKit
variable {Nz : Nat}
theorem DX {w:World}{a:Option Addr}{n:Nat}{l:List (List UInt8)}(h:Sl 1 (aN Nz) w a n l):∃vs:List Value,vs.length=n*1/\(a=none->n=0)/\(∀ad,a=some ad->∀j u,vs[j]? = some u->w.cell? (ad.add j)=some u)/\(∀u ∈ vs,u.oneCell'=true)/\cf Nz w vs l:=by
 have hl:=h.len
 rcases h.at1 with h0|⟨b,off,rfl,hc⟩
 ·subst h0
  refine⟨[],rfl,fun _=>rfl,fun ad _ j u hu=>by simp at hu,fun u hu=>(by cases hu),⟨by simp[hl],fun i x hx => ?_⟩⟩
  rw[List.eq_nil_of_length_eq_zero hl]at hx
  simp at hx
 ·have hex:∀i:Nat,∃v:Value,∀x,l[i]? = some x->aN Nz w [v] x/\w.cell? ⟨b,off+i,none⟩=some v/\v.oneCell'=true:=by
   intro i
   cases hi:l[i]? with
   | none=>exact⟨undef,fun x hx=>by cases hx⟩
   | some x =>
    obtain⟨v,h1,h2⟩:=hc i x hi
    refine⟨v,fun y hy => ?_⟩
    cases hy
    refine⟨h1,h2,?_⟩
    obtain⟨xa,xn,xc,hv,_⟩:=h1
    simp only[List.cons.injEq,and_true]at hv
    subst hv
    rfl
  obtain⟨f,hf⟩:=Classical.axiomOfChoice hex
  refine⟨(List.range n).map f,by simp,(fun e=>by cases e),?_,?_,by simp[hl],?_⟩
  ·rintro ad e j u hu
   cases e
   rw[List.getElem?_map]at hu
   obtain⟨i,hi,rfl⟩:=Option.map_eq_some_iff.1 hu
   have hj:j<n:=by
    have:=(List.getElem?_eq_some_iff.1 hi).1
    simpa using this
   rw[List.getElem?_range hj]at hi
   cases hi
   obtain⟨x,hx⟩:=av hl hj
   rw[Addr.add_lit]
   exact(hf j x hx).2.1
  ·intro u hu
   obtain⟨i,hi,rfl⟩:=List.mem_map.1 hu
   obtain⟨x,hx⟩:=av hl (List.mem_range.1 hi)
   exact(hf i x hx).2.2
  ·intro i x hx
   have hi:i<n:=by rw[<-hl];exact(List.getElem?_eq_some_iff.1 hx).1
   exact⟨f i,by rw[List.getElem?_map,List.getElem?_range hi];rfl,(hf i x hx).1⟩
def bu (j:am)(b:List UInt8):am × Int:=if j.okB then (if j.many-au j.recs<bd b.length then (.zero,2) else (⟨j.recs++[b],j.many,j.synced⟩,0)) else (.zero,1)
theorem mV {j:am}{b:List UInt8}(h:j.okB=false):bu j b=(.zero,1):=by simp[bu,h]
theorem lV {j:am}{b:List UInt8}(h:j.okB=true)(h2:j.many-au j.recs<bd b.length):bu j b=(.zero,2):=by simp[bu,h,h2]
theorem oM {j:am}{b:List UInt8}(h:j.okB=true)(h2:¬j.many-au j.recs<bd b.length):bu j b=(⟨j.recs++[b],j.many,j.synced⟩,0):=by simp[bu,h,h2]
theorem oN {p:am × Int}{w:World}{n:Int}(h:p=(.zero,n)):eW Nz (.returned (.tuple #[.agg #[.slice none 0 0,.int .i64 0,.int .i64 0],.int .i64 n])) w p.1 p.2:=by
 rw[h];exact⟨none,0,0,rfl,iB w⟩
theorem cf.snoc {w:World}{vs:List Value}{s:List (List UInt8)}{v:Value}{b:List UInt8}(h:cf Nz w vs s)(hb:aN Nz w [v] b):cf Nz w (vs++[v]) (s++[b]):=by
 refine⟨by simp[h.1],fun i x hx => ?_⟩
 rcases Nat.lt_or_ge i s.length with h1|h1
 ·rw[List.getElem?_append_left h1]at hx
  obtain⟨u,h2,h3⟩:=h.2 i x hx
  exact⟨u,by rw[List.getElem?_append_left (by rw[h.1];exact h1)];exact h2,h3⟩
 ·rw[List.getElem?_append_right h1]at hx
  have h2:i-s.length=0:=by
   rcases Nat.eq_zero_or_pos (i-s.length) with h3|h3
   ·exact h3
   ·rw[List.getElem?_eq_none (by simp;omega)]at hx;cases hx
  rw[h2]at hx
  simp only[List.getElem?_cons_zero,Option.some.injEq]at hx
  subst hx
  exact⟨v,by rw[List.getElem?_append_right (by rw[h.1];exact h1),h.1,h2];rfl,hb⟩
theorem mW {j:am}{b:List UInt8}{w:World}{B n c:Nat}{a:Option Addr}{vs:List Value}{m s:Int}(h:bu j b=(⟨j.recs++[b],j.many,j.synced⟩,0))(ho:w.ownsRow B 40 1 (.slice a (n+1) c) (n+1) vs)(hv:cf Nz w vs (j.recs++[b]))(hn:n+1<=5000)(hs:∀x ∈ j.recs,x.length<=100000)(hb:b.length<=100000)(hm:m=j.many)(hss:s=j.synced) :
  eW Nz (.returned (.tuple #[.agg #[.slice a (n+1) c,.int .i64 m,.int .i64 s],.int .i64 0])) w (bu j b).1 (bu j b).2:=by
 rw[h]
 subst hm
 subst hss
 obtain⟨_,h1,h2,h3⟩:=nh (Nz:=Nz) ho hv
 exact⟨a,n+1,c,rfl,h2,hn,h1,h3,fun x hx=>by
  rcases List.mem_append.1 hx with h4|h4
  ·exact hs x h4
  ·simp only[List.mem_singleton]at h4
   subst h4
   exact hb⟩
theorem cf.box {w W:World}{vs:List Value}{s:List (List UInt8)}{X:Nat}{C:Array Value}{t:TypeId}{fr:Nat × Nat}(h:cf Nz w vs s)(hX:Nz<=X)(hx:w.heap[X]? = some (.cells C t fr))(ht:t≠5/\t≠40/\t≠64)(hs:w.heap.size<=W.heap.size)(hW:∀b,b<w.heap.size->b≠X->W.heap[b]? = w.heap[b]?):cf Nz W vs s:=
 ⟨h.1,fun i x hi=>by obtain⟨u,h1,h2⟩:=h.2 i x hi;exact⟨u,h1,h2.box hX hx ht hs hW⟩⟩
theorem oO {w w5:World}{B n vc5:Nat}{va5:Option Addr}{v:Value}{vs:List Value}{rs:List (List UInt8)}{b:List UInt8}{C1 C2:Array Value}{u0 u1 u2 u3:Value}(hNz:Nz<=w.heap.size)(_hB5:Below w.heap.size w w5)(hBB:w.heap.size+1<B)
  (hx1:w5.heap[w.heap.size]? = some (.cells C1 24 (0,0))) (hx2:w5.heap[w.heap.size+1]? = some (.cells C2 24 (0,0))) (ho:w5.ownsRow B 40 1 (.slice va5 (n+1) vc5) (n+1) (vs++[v])) (hv:cf Nz w5 vs rs) (hb:aN Nz w5 [v] b) :
  cf Nz ((((w5.setCell ⟨w.heap.size,0,none⟩ u0).setCell ⟨w.heap.size+1,0,none⟩ u1).setCell ⟨w.heap.size+1,1,none⟩ u2).setCell ⟨w.heap.size+1,2,none⟩ u3) (vs++[v]) (rs++[b]) /\
  ((((w5.setCell ⟨w.heap.size,0,none⟩ u0).setCell ⟨w.heap.size+1,0,none⟩ u1).setCell ⟨w.heap.size+1,1,none⟩ u2).setCell ⟨w.heap.size+1,2,none⟩ u3).ownsRow B 40 1 (.slice va5 (n+1) vc5) (n+1) (vs++[v]):=by
 have h0:cf Nz (w5.setCell ⟨w.heap.size,0,none⟩ u0) (vs++[v]) (rs++[b]):=(hv.snoc hb).box hNz hx1 (by decide) (by simp) (fun q _ hq=>Below.heap_setCell _ _ _ q (by simpa using hq))
 have hx2':(w5.setCell ⟨w.heap.size,0,none⟩ u0).heap[w.heap.size+1]? = some (.cells C2 24 (0,0)):=(Below.heap_setCell _ _ _ _ (by simp)).trans hx2
 refine⟨h0.box om hx2' (by decide) (by simp) (fun q _ hq => ?_),Ap ho (fun g hg => ?_)⟩
 ·exact(Below.heap_setCell _ _ _ q (by simpa using hq)).trans ((Below.heap_setCell _ _ _ q (by simpa using hq)).trans (Below.heap_setCell _ _ _ q (by simpa using hq)))
 ·exact(Below.heap_setCell _ _ _ g (by simp;omega)).trans ((Below.heap_setCell _ _ _ g (by simp;omega)).trans ((Below.heap_setCell _ _ _ g (by simp;omega)).trans (Below.heap_setCell _ _ _ g (by simp;omega))))
theorem xu (a:Option Addr)(n c:Nat)(w:World)(h:n<=c)(hz:a=none->n=0) :
  Calls Tryz.prog 43 #[.slice a n c] w fun e w'=>e=.returned (.slice a n n)/\w=w':=by
 cases a with
 | none =>
  obtain rfl:=hz rfl
  exact uR c w
 | some ad=>exact uQ ad n c w h
theorem append_any (a:Option Addr)(n c:Nat)(j:am)(ba:Option Addr)(bn bc:Nat)(b:List UInt8)(w:World)(hNz:Nz<=w.heap.size)(hn:n+1<=5000)(hbn:bn<=100000)(h:cg Nz w a n c j)(hb:aN Nz w [.slice ba bn bc] b) :
  Calls Tryz.prog 17 #[.agg #[.slice a n c,.int .i64 j.many,.int .i64 j.synced],.slice ba bn bc] w fun e w'=>eW Nz e w' (bu j b).1 (bu j b).2/\Below w.heap.size w w':=by
 have H:=aa h
 have HBB:Hid (Sl 1 ai w ba bn b):=by
  obtain⟨xa,xn,xc,hv,_,_,h3,_⟩:=hb
  simp only[List.cons.injEq,Value.slice.injEq,and_true]at hv
  obtain⟨rfl,rfl,rfl⟩:=hv
  exact h3
 clear h hb
 go_enter Tryz.func17,Tryz.ntmps17
 go_wp2_with fail
 refine(iL _ _ _ j _ (H.out.below ?hb)).mono ?_
 case hb=>go_grown
 rintro e w1 ⟨rfl,hB⟩
 have hx1:w1.heap[w.heap.size]? = some (.cells #[.slice a n c,.int .i64 j.many,.int .i64 j.synced] 24 (0,0)):=(hB.block _ (by simp;omega)).trans (aB _ (ak _ rfl))
 have hx2:w1.heap[w.heap.size+1]? = some (.cells #[.slice none 0 0,.int .i64 0,.int .i64 0] 24 (0,0)):=(hB.block _ (by simp)).trans (ak _ (by simp))
 have hB1:Below w.heap.size w w1:=Below.trans (by go_grown) (hB.mono (by simp;omega))
 have hs1:=hB1.size
 obtain⟨hl1,b0,b1,b2,⟨k0,k1,k2⟩,z0,z1,z2⟩:=aJ (Below.refl _ w1) hx1
 obtain⟨hl2,r0,r1,r2,⟨i0,i1,i2⟩,y0,y1,y2⟩:=aJ (Below.refl _ w1) hx2
 have HX1:=aa hx1
 have HX2:=aa hx2
 clear hB hx1 hx2
 cases hok:j.okB
 ·have HN:=aa (mV (b:=b) hok)
  rw[show j.check=1 by simp[am.check,hok]]
  clear hok
  go_wp2
  refine bodyPost_ret (by simp[results,Tryz.results17,go_sem,r0,r1,r2];try rfl) rfl ?_
  exact⟨oN HN.out,by go_grown⟩
 ·obtain⟨p1,p2,p3,p4,p5⟩:=eM hok
  rw[show j.check=0 by simp[am.check,hok]]
  have hs:=kj bn
  have HBL:Hid (b.length=bn):=HBB.out.len
  obtain⟨u,hu⟩:=zg (au j.recs)
  obtain⟨sx,hsx⟩:=zg (bd bn)
  rw[<-hu]at p5
  rw[<-hsx]at hs
  have HC66:Hid (∀W,Calls Tryz.prog 41 #[.slice ba bn bc] W fun e w'=>e=.returned (.int .i64 sx)/\w'=W):=fun W=>by rw[hsx];exact(jU _ _ _ W hbn).mono fun _ _ ⟨h1,h2⟩=>⟨h1,h2.symm⟩
  have HC67:Hid (∀W,Below w.heap.size w W->Calls Tryz.prog 42 #[.slice a n c] W fun e w'=>e=.returned (.int .i64 u)/\w'=W):=fun W hW=>by
   rw[hu];exact(ni _ _ _ _ W H.out.m H.out.s (H.out.recs.below aN.keeps hW)).mono fun _ _ ⟨h1,h2⟩=>⟨h1,h2.symm⟩
  obtain⟨mm,hmm⟩:=zg j.many
  obtain⟨ss,hss⟩:=zg j.synced
  rw[<-hmm]at b1 p1 p2 p5
  rw[<-hss]at b2
  have HM:=aa hmm
  have HSY:=aa hss
  have w1':IntKind.i64.wrap (mm-(u:Int))=mm-u:=by rw[IntKind.wrap_i64];omega
  have HL:Hid (j.many-au j.recs=mm-u/\bd b.length=sx):=⟨by rw[hmm,hu],by rw[HBL.out,hsx]⟩
  have HOK:=aa hok
  clear hok p3 p4 hu hsx hmm hss
  by_cases hfull:mm-(u:Int)<(sx:Int)
  ·have HN:=aa (lV (b:=b) HOK.out (by rw[HL.out.1,HL.out.2];exact hfull))
   go_wp2_with fail
   go_quiet ((first|(go_at_call 41;with_reducible exact Calls.quiet_of_same (HC66.out _))|(go_at_call 42;with_reducible exact Calls.quiet_of_same (HC67.out _ (below_drewN hB1 _)))))
   go_wp2
   refine bodyPost_ret (by simp[results,Tryz.results17,go_sem,r0,r1,r2];try rfl) rfl ?_
   exact⟨oN HN.out,by have:=below_drewN hB1 nq;go_grown⟩
  ·have HN:=aa (oM (b:=b) HOK.out (by rw[HL.out.1,HL.out.2];exact hfull))
   go_wp2_with fail
   go_quiet ((first|(go_at_call 41;with_reducible exact Calls.quiet_of_same (HC66.out _))|(go_at_call 42;with_reducible exact Calls.quiet_of_same (HC67.out _ (below_drewN hB1 _)))))
   obtain⟨w2,hw2⟩:=zg (w1.drewN nq)
   rw[<-hw2]
   have hB12:Below w1.heap.size w1 w2:=by rw[hw2];exact below_drewN (Below.refl _ _) nq
   have hB2:Below w.heap.size w w2:=hB1.trans (hB12.mono hs1)
   have hx1:=(hB12.block _ hl1).trans HX1.out
   have hx2:=(hB12.block _ hl2).trans HX2.out
   obtain⟨vs,v1,v2,v3,v4,v5⟩:=DX H.out.recs
   have HX1:=aa hx1
   have HX2:=aa hx2
   have hnc:=H.out.k
   have HV1:=aa v1
   have HV3:=aa v3
   have HV4:=aa v4
   have HV5:=aa v5
   have hs2:=hB2.size
   have hl12:w.heap.size+1<w2.heap.size:=Nat.lt_of_lt_of_le hl2 hB12.size
   clear hw2 b0 b1 b2 k0 k1 k2 z0 z1 z2 r0 r1 r2 i0 i1 i2 y0 y1 y2 HC66 HC67 hB12 hx2 v1 v3 v4 v5 hl1 hl2
   obtain⟨_,b0,b1,b2,⟨k0,k1,k2⟩,z0,z1,z2⟩:=aJ (Below.refl _ w2) hx1
   clear hx1
   go_wp2_with fail
   refine(xu a n c w2 hnc v2).mono ?_
   rintro e w' ⟨rfl,rfl⟩
   go_wp2_with fail
   refine(uS ba bn bc b w2 om (HBB.out.below ai.keeps hB2)).mono ?_
   rintro e w3 ⟨⟨va,vc,rfl,hro⟩,hB23⟩
   have HRO:=aa hro
   have hB3:=hB2.trans (hB23.mono hs2)
   have hx1:=(hB23.block _ om).trans HX1.out
   have hx2:=(hB23.block _ hl12).trans HX2.out
   have HX1:=aa hx1
   have HX2:=aa hx2
   have hs3:=hB3.size
   have hl13:w.heap.size+1<w3.heap.size:=Nat.lt_of_lt_of_le hl12 hB23.size
   have h5535:(24:TypeId)≠40:=by decide
   obtain⟨j0,hi,hz0,hz1,hz2⟩:=info_parts nN
   clear b0 b1 b2 k0 k1 k2 z0 z1 z2 hro hx1 hx2
   go_wp2_with (at_builtin;refine wpList_append_grows _ rfl _ _ 22 rfl 40 j0 (.slice none 0 0) 1 24 Tryz.underlying22 hi hz0 hz1 hz2 rfl (by decide) a n n vs rfl ?k0 HV1.out ?k1 ⟨w3.heap.size,0,none⟩ 1 1 [.slice va bn vc] rfl rfl ?k2 ?k3 ?k4 ?k5 ?k6 ?_;rotate_right;intro v5 w5 hown hgrow;obtain⟨va5,vc5,rfl⟩:=ft hown;have hx1:=bx (aB (.cells #[.slice va bn vc] 40) HX1.out) hgrow (by simp);have hx2:=bx (aB (.cells #[.slice va bn vc] 40) HX2.out) hgrow (by simp);obtain⟨_,b0,b1,b2,⟨k0,k1,k2⟩,z0,z1,z2⟩:=aJ (Below.refl _ w5) hx1;obtain⟨_,r0,r1,r2,⟨i0,i1,i2⟩,y0,y1,y2⟩:=aJ (Below.refl _ w5) hx2;have HX1:=aa hx1;have HX2:=aa hx2;have HOWN:=aa hown;have HGROW:=aa hgrow;clear hown hgrow hx1 hx2)
   case k0=>exact fun h=>⟨v2 h,v2 h⟩
   case k1=>exact fun ad had j u hu=>ag ((Below.refl _ w3).alloc (Nat.le_refl _) _) (ag hB3 (HV3.out ad had j u hu))
   case k2 =>
    intro j u hu
    rw[Addr.add_lit,Nat.zero_add,dz _ _ rfl]
    simpa using hu
   case k3=>simp[Value.oneCell']
   case k4=>omega
   case k5=>unfold maxLen;omega
   case k6=>omega
   refine bodyPost_ret (by simp[results,Tryz.results17,go_sem,r0,r1,r2];try rfl) rfl ?_
   have hB5:Below w.heap.size w w5:=(hB3.alloc hs3 _).grown HGROW.out (by simp;omega) (fun q hq=>by cases hq)
   obtain⟨hv5,ho5⟩:=oO (Nz:=Nz) hNz hB5 (by simp;omega) HX1.out HX2.out HOWN.out (HV5.out.below hB5) (i4 (jy HRO.out ((((Below.refl _ w3).alloc (Nat.le_refl _) _).grown HGROW.out (by simp) (fun q hq=>by cases hq)))))
   exact⟨mW HN.out ho5 hv5 hn H.out.s (by rw[HBL.out];exact hbn) rfl rfl,by go_grown⟩
end Go.Proofs.YtmflnpdmlfmcpaaGreatDoor
