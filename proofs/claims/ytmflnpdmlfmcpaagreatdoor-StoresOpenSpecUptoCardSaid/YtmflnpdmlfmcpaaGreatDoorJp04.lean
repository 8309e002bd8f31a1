/- Joined texts. -/
import Derived.Test.YtmflnpdmlfmcpaaGreatDoorJp00
import Derived.Deep.RegionHeld3
import Derived.Deep.Cut
set_option maxRecDepth 100000
set_option maxHeartbeats 4000000
namespace Go.Proofs.YtmflnpdmlfmcpaaGreatDoor
open Go.RowKit
variable {Nz : Nat}
def t7 : Value->Nat
 | .slice _ n _=>n
 | _=>0
theorem Dx (a1:Option Addr)(n1 c1:Nat)(a2:Option Addr)(n2 c2:Nat)(d:aj)(i:Int)(ba:Option Addr)(bn bc:Nat)(b:List UInt8)(w:World)(h:bF Nz w a1 n1 c1 a2 n2 c2 d)(hb:Sl 1 ai w ba bn b)(hbm:bn<=maxLen) :
  Calls Tryz.prog 69 #[.agg #[.slice a1 n1 c1,.slice a2 n2 c2,.int .i64 d.left,.bool d.stopped],.int .i64 i,.slice ba bn bc] w fun e w' =>
   (∃v,e=.returned (.tuple #[v,.int .i64 (d.write i b).2])/\eJ Nz w' v (d.write i b).1)/\Below w.heap.size w w':=by
 have H:=aa h
 have HBS:=aa hb
 have L1:=aa h.secs.len
 have L2:=aa h.pend.len
 have m1:=h.m1
 have m2:=h.m2
 unfold maxLen at m1 m2 hbm
 clear h hb
 have HW:Hid (∀r,d.canRead i=r->d.write i b=if r then (if b.length<=128 then (if d.pend.length=4096 then (aj.zero,2) else ({ d with pend:=d.pend++[(i,gO b)] },0)) else (aj.zero,1)) else (aj.zero,40)):=fun r hr=>by subst hr;rfl
 go_enter Tryz.func69,Tryz.ntmps69
 go_wp2_with fail
 refine(n6 _ _ _ _ _ _ _ _ (H.out.below ?hb)).mono ?_
 case hb=>go_grown
 rintro e w1 ⟨rfl,hB⟩
 obtain⟨bl,b0,b1,b2,b3,⟨_,i1,_,_⟩,_,y1,_⟩:=aF hB (aB _ (ak _ rfl))
 have HX1:Hid (w1.heap[w.heap.size]? = some (.cells #[.slice a1 n1 c1,.slice a2 n2 c2,.int .i64 d.left,.bool d.stopped] 27 (0,0))):=(hB.block _ (by simp;omega)).trans (aB _ (ak _ rfl))
 have HX2:Hid (w1.heap[w.heap.size+1]? = some (.cells zK 27 (0,0))):=(hB.block _ (by simp)).trans (ak _ (by simp))
 obtain⟨rl,r0,r1,r2,r3,⟨j0,j1,j2,j3⟩,z0,z1,z2,z3⟩:=aF (Below.refl _ w1) HX2.out
 have hB1:Below w.heap.size w w1:=Below.trans (by go_grown) (hB.mono (by simp;omega))
 clear hB
 by_cases hg:d.check=0/\d.stopped=false/\0<=i/\i<n1
 ·obtain⟨g1,g2,g3,g4⟩:=hg
  have hok:=Du g1
  obtain⟨_,q1,q2⟩:=ls hok
  rw[L1.out]at q1
  rw[L2.out]at q2
  have hrd:=HW.out true (by simp[aj.canRead,aj.runs,hok,g2,g3,L1.out,g4])
  rw[if_pos rfl]at hrd
  rw[g1]
  rw[g2]at b3
  have hbl:=HBS.out.len
  have HST:=aa g2
  by_cases h128:bn<=128
  ·rw[if_pos om]at hrd
   by_cases h4096:n2=4096
   ·rw[if_pos (by have:=L2.out;omega)]at hrd
    have HRD:=aa hrd
    clear hrd g1 g2 hok HW hbl
    go_wp2
    refine bodyPost_ret (by simp[results,Tryz.results69,go_sem,r0,r1,r2,r3];try rfl) rfl ?_
    exact⟨⟨_,by rw[HRD.out],by rw[HRD.out];exact ge _⟩,by go_grown⟩
   ·rw[if_neg (by have:=L2.out;omega)]at hrd
    have HRD:=aa hrd
    obtain⟨i0,hi0,hz0,hz1,hz2⟩:=info_parts jv
    obtain⟨k0,hk0,hy0,hy1,hy2⟩:=info_parts Dw
    obtain⟨f1,f2,f3,f4⟩:=bV (HBS.out.below ai.keeps hB1)
    obtain⟨C,hC⟩:=zg (af b)
    rw[<-hC]at f1 f3 f4
    have HC:=aa hC
    have F1:=aa f1
    have F2:=aa f2
    have F3:Hid (∀W,Below w1.heap.size w1 W->∀ad,ba=some ad->∀j u,C[j]? = some u->W.cell? (ad.add j)=some u):=fun W hW ad had j u hu=>ag hW (f3 ad had j u hu)
    have F4:=aa f4
    clear hrd g1 g2 hok HW hbl f1 f2 f3 f4 hC
    go_wp2_with (at_builtin;refine aD rfl (.tmp 37) (.tmp 38) 40 rfl w1.heap.size 5 i0 (.int .u8 0) 1 1 Tryz.underlying40 hi0 hz0 hz1 hz2 rfl (by decide) (.slice (some ⟨w1.heap.size,0,none⟩) 0 0) 0 [] rfl ?o0 ba bn bc C rfl F1.out F2.out (F3.out _ ((Below.refl _ w1).alloc (Nat.le_refl _) _)) F4.out ?o1 ?o2 ?o3 ?_;rotate_right;intro va vc w2 hown hgrow)
    case o0=>exact⟨rfl,.inr ⟨w1.heap.size,0,#[],rfl,Nat.le_refl _,ak _ rfl,Nat.le_refl _,by unfold maxLen;omega,rfl,rfl⟩⟩
    case o1=>unfold maxLen;omega
    case o2=>omega
    case o3=>simp
    have hB2:Below w1.heap.size w1 w2:=((Below.refl _ w1).alloc (Nat.le_refl _) _).grown hgrow (by simp) (fun k e=>by simp[Value.ownBlock]at e;omega)
    rw[Nat.zero_add]at hown
    have HOWN:=aa hown
    clear hown hgrow
    go_loopw [8] (fun v wr=>∃(m:Nat) (va:Option Addr) (vc:Nat),v=.slice va m vc/\bn<=m/\m<=128/\wr.ownsRow w1.heap.size 5 1 (.slice va m vc) m (af (b++List.replicate (m-bn) 0))/\Below w1.heap.size w1 wr) (fun v _=>128-t7 v)
    case atStart =>
     refine⟨bn,va,vc,by simp,Nat.le_refl _,h128,?_,hB2⟩
     have:=HOWN.out
     rw[HC.out]at this
     simpa using this
    case round =>
     obtain⟨m,xa,xc,rfl,hm1,hm2,hown,hB⟩:=hrel
     have b0:=ag hB b0
     have b1:=ag hB b1
     have b2:=ag hB b2
     have b3:=ag hB b3
     have HOWN:=aa hown
     clear hown
     by_cases hlt:m<128
     ·obtain⟨xs,hxs⟩:=zg (af (b++List.replicate (m-bn) 0))
      have HXS:=aa hxs
      have HO:=HOWN.out
      rw[<-hxs]at HO
      have HOWN:=aa HO
      clear HO hxs
      go_wp2_with (at_builtin;refine aD rfl (.tmp 43) (.tmp 44) 40 rfl w1.heap.size 5 i0 (.int .u8 0) 1 1 Tryz.underlying40 hi0 hz0 hz1 hz2 rfl (by decide) (.slice xa m xc) m xs rfl (HOWN.out.alloc _) (some ⟨wr.heap.size,0,none⟩) 1 1 [.int .u8 0] rfl rfl ?p0 ?p1 ?p2 ?p3 ?p4 ?p5 ?_;rotate_right;intro ya yc w3 hown hgrow)
      case p0=>simp
      case p1 =>
       intro ad had j u hu
       cases had
       rw[Addr.add_lit,Nat.zero_add,dz _ _ rfl]
       simpa using hu
      case p2=>simp[Value.oneCell']
      case p3=>unfold maxLen;omega
      case p4=>omega
      case p5=>have:=hB.size;simp;omega
      have hB3:Below w1.heap.size w1 w3:=(hB.alloc hB.size _).grown hgrow (by have:=hB.size;simp;omega) (fun k e=>(HOWN.out.lt k e).1)
      have hown3:w3.ownsRow w1.heap.size 5 1 (.slice ya (m+1) yc) (m+1) (af (b++List.replicate (m+1-bn) 0)):=by
       rw[HXS.out]at hown
       rw[show m+1-bn=(m-bn)+1 by omega,List.replicate_succ',<-List.append_assoc]
       have e:af (b++List.replicate (m-bn) 0++[0])=af (b++List.replicate (m-bn) 0)++[.int .u8 0]:=by simp[af]
       rw[e]
       exact hown
      have HO3:=aa hown3
      clear hown3 hown hgrow
      go_roundw
      case rel=>exact⟨m+1,ya,yc,rfl,om,om,HO3.out,hB3⟩
      case measure=>simp[t7];omega
     ·obtain rfl:m=128:=om
      obtain⟨ws,hwl,hwc,hw1,hwr⟩:=sr H.out.pend
      have hBr:Below w.heap.size w wr:=hB1.trans (hB.mono om)
      have hs1:=hB.size
      have hX1:wr.heap[w.heap.size]? = some (.cells #[.slice a1 n1 c1,.slice a2 n2 c2,.int .i64 d.left,.bool d.stopped] 27 (0,0)):=(hB.block _ om).trans HX1.out
      have hX2:wr.heap[w.heap.size+1]? = some (.cells zK 27 (0,0)):=(hB.block _ om).trans HX2.out
      have hbw:=lt_of_block hX1
      have hbw2:=lt_of_block hX2
      have hnone:a2=none->n2=0:=by
       rintro rfl
       rcases H.out.pend.2 with h|⟨_,_,h,_⟩
       ·exact h
       ·cases h
      have HWL:=aa hwl
      have HWC:Hid (∀W,Below wr.heap.size wr W->∀ad,a2=some ad->∀j u,ws[j]? = some u->W.cell? (ad.add j)=some u):=fun W hW ad had j u hu=>ag hW (ag hBr (hwc ad had j u hu))
      have HWR:=aa hwr
      have HN:=aa hnone
      have hrow0:(wr.alloc (.cells #[] 64)).ownsRow wr.heap.size 64 2 (.slice (some ⟨wr.heap.size,0,none⟩) 0 0) 0 []:=⟨rfl,.inr ⟨wr.heap.size,0,#[],rfl,Nat.le_refl _,ak _ rfl,Nat.le_refl _,by unfold maxLen;omega,rfl,rfl⟩⟩
      have HROW:=aa hrow0
      have HY1:=aa hX1
      have HY2:=aa hX2
      clear hwl hwc hwr hnone hrow0 hX1 hX2
      go_wp2_with (first
       | (at_builtin;refine aD rfl (.tmp 46) (.tmp 48) 25 rfl wr.heap.size 64 k0 (.agg #[.int .i64 0,.slice none 0 0]) 2 32 Tryz.underlying25 hk0 hy0 hy1 hy2 rfl (by decide) (.slice (some ⟨wr.heap.size,0,none⟩) 0 0) 0 [] rfl HROW.out a2 n2 c2 ws rfl HWL.out HN.out (HWC.out _ ((Below.refl _ wr).alloc (Nat.le_refl _) _)) hw1 ?s0 ?s1 ?s2 ?_;rotate_right;intro pa pc w3 hown hgrow;rw[Nat.zero_add,List.nil_append]at hown;have hx1:=bx (aB _ HY1.out) hgrow (de HROW.out (aB _ HY1.out) (by decide));have hx2:=bx (aB _ HY2.out) hgrow (de HROW.out (aB _ HY2.out) (by decide));have hd3:=(HOWN.out.alloc (.cells #[] 64)).kept hgrow (vM (HOWN.out.alloc _) HROW.out (by decide));have hB3:Below w.heap.size w w3:=(hBr.alloc hBr.size _).grown hgrow (by have:=hBr.size;simp;omega) (fun k e=>by simp[Value.ownBlock]at e;have:=hBr.size;omega);have hz3:=hgrow.size;have HX1:=aa hx1;have HX2:=aa hx2;have HD3:=aa hd3;have HO3:=aa hown;clear hx1 hx2 hd3 hown hgrow)
       | (at_builtin;refine aD rfl (.tmp 49) (.tmp 53) 25 rfl wr.heap.size 64 k0 (.agg #[.int .i64 0,.slice none 0 0]) 2 32 Tryz.underlying25 hk0 hy0 hy1 hy2 rfl (by decide) (.slice pa n2 pc) n2 ws rfl (HO3.out.alloc _) (some ⟨w3.heap.size,0,none⟩) 1 1 [.int .i64 i,.slice xa 128 xc] rfl rfl ?t0 ?t1 ?t2 ?t3 ?t4 ?t5 ?_;rotate_right;intro qa qc w5 hown hgrow;have hx1:=bx (aB _ HX1.out) hgrow (de HO3.out HX1.out (by decide));have hx2:=bx (aB _ HX2.out) hgrow (de HO3.out HX2.out (by decide));obtain⟨_,b0,b1,b2,b3,⟨_,i1,_,_⟩,_,y1,_⟩:=aF (Below.refl _ w5) hx1;obtain⟨_,r0,r1,r2,r3,⟨j0,j1,j2,j3⟩,z0,z1,z2,z3⟩:=aF (Below.refl _ w5) hx2;have HX1:=aa hx1;have HX2:=aa hx2;have HO5:=aa hown;have HG5:=aa hgrow;clear hx1 hx2 hown hgrow))
      case s0=>unfold maxLen;omega
      case s1=>omega
      case s2=>simp
      case t0=>simp
      case t1 =>
       intro ad had j u hu
       cases had
       rw[Addr.add_lit,Nat.zero_add,dz _ _ rfl]
       simpa using hu
      case t2=>simp[Value.oneCell']
      case t3=>unfold maxLen;omega
      case t4=>omega
      case t5=>simp at hz3 ⊢;omega
      refine bodyPost_ret (by simp[results,Tryz.results69,go_sem,r0,r1,r2,r3];try rfl) rfl ?_
      have hd5:=(HD3.out.alloc (.cells #[.int .i64 i,.slice xa 128 xc] 64)).kept HG5.out (vM (HD3.out.alloc (.cells #[.int .i64 i,.slice xa 128 xc] 64)) (HO3.out.alloc (.cells #[.int .i64 i,.slice xa 128 xc] 64)) (by decide))
      have hs3:=hB3.size
      have hB5:Below w.heap.size w w5:=(hB3.alloc hs3 (.cells #[.int .i64 i,.slice xa 128 xc] 64)).grown HG5.out (by simp;omega) (fun k e=>by have:=(HO3.out.lt k e).1;omega)
      have hbl:=HBS.out.len
      have hpad:gO b=b++List.replicate (128-bn) 0:=by unfold gO;rw[hbl]
      obtain⟨g1,g2⟩:=vK (bs:=gO b) hB5 H.out HO5.out HX1.out HX2.out (by decide) HWL.out HWR.out (fun W hW=>by
       rw[hpad]
       refine i4 (cZ hd5 fun g hg=>hW g ?_ ?_)
       ·rintro rfl
        exact de hd5 HX1.out (by decide) hg.symm
       ·rintro rfl
        exact de hd5 HX2.out (by decide) hg.symm)
      exact⟨⟨_,by rw[HRD.out],by rw[HRD.out];exact g1⟩,g2⟩
  ·rw[if_neg om]at hrd
   have HRD:=aa hrd
   clear hrd g1 g2 hok HW hbl
   go_wp2
   refine bodyPost_ret (by simp[results,Tryz.results69,go_sem,r0,r1,r2,r3];try rfl) rfl ?_
   exact⟨⟨_,by rw[HRD.out],by rw[HRD.out];exact ge _⟩,by go_grown⟩
 ·have HRD:Hid (d.write i b=(aj.zero,40)):=HW.out false (by
   apply Bool.eq_false_iff.2
   intro hc
   apply hg
   simp only[aj.canRead,aj.runs,Bool.and_eq_true,decide_eq_true_eq,Bool.not_eq_true']at hc
   have:=L1.out
   exact⟨aj.check_ok hc.1.1.1,hc.1.1.2,hc.1.2,om⟩)
  clear HW
  generalize d.check=er at *
  generalize d.stopped=st at *
  by_cases g1:er=0
  ·subst g1
   cases st
   ·have g4:¬(0<=i/\i<n1):=fun h=>hg ⟨rfl,rfl,h.1,h.2⟩
    clear hg
    have g5:i<0\/(n1:Int)<=i:=om
    clear g4
    rcases g5 with g3|g3
    all_goals
     go_wp2
     refine bodyPost_ret (by simp[results,Tryz.results69,go_sem,r0,r1,r2,r3];try rfl) rfl ?_
     exact⟨⟨_,by rw[HRD.out],by rw[HRD.out];exact ge _⟩,by go_grown⟩
   ·go_wp2
    refine bodyPost_ret (by simp[results,Tryz.results69,go_sem,r0,r1,r2,r3];try rfl) rfl ?_
    exact⟨⟨_,by rw[HRD.out],by rw[HRD.out];exact ge _⟩,by go_grown⟩
  ·go_wp2
   refine bodyPost_ret (by simp[results,Tryz.results69,go_sem,r0,r1,r2,r3];try rfl) rfl ?_
   exact⟨⟨_,by rw[HRD.out],by rw[HRD.out];exact ge _⟩,by go_grown⟩
end Go.Proofs.YtmflnpdmlfmcpaaGreatDoor
namespace Go.Proofs.YtmflnpdmlfmcpaaGreatDoor
open Go.RowKit
variable {Nz : Nat}
def a9 (s:List (List UInt8))(l:List (Int × List UInt8)):List (List UInt8):=l.foldl (fun s x=>s.set x.1.toNat x.2) s
theorem fq (s:List (List UInt8))(l:List (Int × List UInt8)):(a9 s l).length=s.length:=by
 unfold a9
 induction l generalizing s with
 | nil=>rfl
 | cons x l ih=>simp[ih]
theorem qu (s:List (List UInt8))(l:List (Int × List UInt8))(k:Nat)(x:Int × List UInt8)(hx:l[k]? = some x):a9 s (l.take (k+1))=(a9 s (l.take k)).set x.1.toNat x.2:=by
 unfold a9
 rw[cp l k x hx,List.foldl_append]
 rfl
def aj.sync (d:aj):aj × Int:=
 if d.runs then
  if 0<=d.left/\d.left<d.pend.length then
   (⟨(a9 d.secs (d.pend.take d.left.toNat)).set (d.pend.getD d.left.toNat (0,[])).1.toNat ((d.pend.getD d.left.toNat (0,[])).2.take 64++((a9 d.secs (d.pend.take d.left.toNat)).getD (d.pend.getD d.left.toNat (0,[])).1.toNat []).drop 64),[],0,true⟩,40)
  else (⟨a9 d.secs d.pend,[],if 0<=d.left then d.left-d.pend.length else d.left,false⟩,0)
 else (aj.zero,40)
theorem tp {w:World}{base:Nat}{e:TypeId}{size n:Nat}{v:Value}{xs:List Value}(h:w.ownsRow base e size v n xs)(hn:0<n):∃g cap,v=.slice (some ⟨g,0,none⟩) n cap/\base<=g/\n<=cap:=by
 rcases h.2 with ⟨_,rfl⟩|⟨g,cap,cur,rfl,h1,_,h2,_⟩
 ·omega
 ·exact⟨g,cap,rfl,h1,h2⟩
theorem sw (ad:Addr)(n c:Nat)(ws:List Value)(w:World)(hn1:1<=n)(hn:n<=4096)(hl:ws.length=n*1)(hc:∀j u,ws[j]? = some u->w.cell? (ad.add j)=some u)(h1:∀u ∈ ws,u.oneCell'=true) :
  Calls Tryz.prog 116 #[.slice (some ad) n c] w fun e w'=>(∃g cap,e=.returned (.slice (some ⟨g,0,none⟩) n cap)/\w.heap.size<=g/\n<=cap/\w'.ownsRow w.heap.size 40 1 (.slice (some ⟨g,0,none⟩) n cap) n ws)/\Below w.heap.size w w':=by
 have he:∀w:World,(binOp .eql 22 (.slice (some ad) n c) (.slice none 0 0)).run Tryz.prog w=.ok (.bool false) w:=fun _=>rfl
 obtain⟨i0,hi,hz0,hz1,hz2⟩:=info_parts nN
 go_enter Tryz.func116,Tryz.ntmps116
 have hc1:Hid (∀x,∀ad',some ad=some ad'->∀j u,ws[j]? = some u->(w.alloc x).cell? (ad'.add j)=some u):=fun x ad' e j u hu=>by cases e;exact ag ((Below.refl _ _).alloc (Nat.le_refl _) _) (hc j u hu)
 clear hc
 go_wp2_with (at_builtin;refine aD rfl (.tmp 5) (.tmp 6) 22 rfl w.heap.size 40 i0 (.slice none 0 0) 1 24 Tryz.underlying22 hi hz0 hz1 hz2 rfl (by decide) (.slice (some ⟨w.heap.size,0,none⟩) 0 0) 0 [] rfl ?c0 (some ad) n c ws rfl hl (fun h=>by cases h) (hc1.out _) h1 ?c3 ?c4 ?c5 ?_;rotate_right;intro va vc w2 hown hgrow)
 case c0=>exact⟨rfl,.inr ⟨w.heap.size,0,#[],rfl,Nat.le_refl _,ak _ rfl,Nat.le_refl _,by unfold maxLen;omega,rfl,rfl⟩⟩
 case c3=>unfold maxLen;omega
 case c4=>omega
 case c5=>simp
 go_wp2
 go_ret
 rw[Nat.zero_add,List.nil_append]at hown
 obtain⟨g,cap,hv,h2,h3⟩:=tp hown om
 cases hv
 exact⟨⟨g,_,rfl,h2,h3,hown⟩,((Below.refl _ w).alloc (Nat.le_refl _) _).grown hgrow (by simp) (fun k e=>by cases e;exact Nat.le_refl _)⟩
theorem sz (ad:Addr)(n c:Nat)(ws:List Value)(w:World)(hn1:1<=n)(hn:n<=4096)(hl:ws.length=n*1)(hc:∀j u,ws[j]? = some u->w.cell? (ad.add j)=some u)(h1:∀u ∈ ws,u.oneCell'=true) :
  Calls Tryz.prog 44 #[.slice (some ad) n c] w fun e w'=>(∃g cap,e=.returned (.slice (some ⟨g,0,none⟩) n cap)/\w.heap.size<=g/\n<=cap/\w'.ownsRow w.heap.size 5 1 (.slice (some ⟨g,0,none⟩) n cap) n ws)/\Below w.heap.size w w':=by
 have he:∀w:World,(binOp .eql 40 (.slice (some ad) n c) (.slice none 0 0)).run Tryz.prog w=.ok (.bool false) w:=fun _=>rfl
 obtain⟨i0,hi,hz0,hz1,hz2⟩:=info_parts jv
 go_enter Tryz.func44,Tryz.ntmps44
 have hc1:Hid (∀x,∀ad',some ad=some ad'->∀j u,ws[j]? = some u->(w.alloc x).cell? (ad'.add j)=some u):=fun x ad' e j u hu=>by cases e;exact ag ((Below.refl _ _).alloc (Nat.le_refl _) _) (hc j u hu)
 clear hc
 go_wp2_with (at_builtin;refine aD rfl (.tmp 5) (.tmp 6) 40 rfl w.heap.size 5 i0 (.int .u8 0) 1 1 Tryz.underlying40 hi hz0 hz1 hz2 rfl (by decide) (.slice (some ⟨w.heap.size,0,none⟩) 0 0) 0 [] rfl ?c0 (some ad) n c ws rfl hl (fun h=>by cases h) (hc1.out _) h1 ?c3 ?c4 ?c5 ?_;rotate_right;intro va vc w2 hown hgrow)
 case c0=>exact⟨rfl,.inr ⟨w.heap.size,0,#[],rfl,Nat.le_refl _,ak _ rfl,Nat.le_refl _,by unfold maxLen;omega,rfl,rfl⟩⟩
 case c3=>unfold maxLen;omega
 case c4=>omega
 case c5=>simp
 go_wp2
 go_ret
 rw[Nat.zero_add,List.nil_append]at hown
 obtain⟨g,cap,hv,h2,h3⟩:=tp hown om
 cases hv
 exact⟨⟨g,_,rfl,h2,h3,hown⟩,((Below.refl _ w).alloc (Nat.le_refl _) _).grown hgrow (by simp) (fun k e=>by cases e;exact Nat.le_refl _)⟩
def cf (Nz:Nat)(w:World)(vs:List Value)(s:List (List UInt8)):Prop:=vs.length=s.length/\∀(i:Nat) x,s[i]? = some x->∃u,vs[i]? = some u/\aN Nz w [u] x
theorem cf.set {w:World}{vs:List Value}{s:List (List UInt8)}(h:cf Nz w vs s)(i:Nat){u:Value}{x:List UInt8}(hu:aN Nz w [u] x):cf Nz w (vs.set i u) (s.set i x):=by
 refine⟨by simpa using h.1,fun j y hy => ?_⟩
 rw[List.getElem?_set]at hy ⊢
 by_cases hij:i=j
 ·subst hij
  rw[if_pos rfl]at hy ⊢
  split at hy
  ·rename_i hlt
   cases hy
   rw[if_pos (by rw[h.1];exact hlt)]
   exact⟨u,rfl,hu⟩
  ·cases hy
 ·rw[if_neg hij]at hy ⊢
  exact h.2 j y hy
theorem vP {w:World}{a:Option Addr}{n:Nat}{s:List (List UInt8)}(h:Sl 1 (aN Nz) w a n s) :
  ∃vs,cf Nz w vs s/\vs.length=n*1/\(∀ad,a=some ad->∀j u,vs[j]? = some u->w.cell? (ad.add j)=some u)/\(∀u ∈ vs,u.oneCell'=true):=by
 have hl:=h.len
 have hex:∀j:Nat,∃u:Value,u.oneCell'=true/\∀x,s[j]? = some x->aN Nz w [u] x/\∀ad,a=some ad->w.cell? (ad.add j)=some u:=by
  intro j
  cases hj:s[j]? with
  | none=>exact⟨.bool true,rfl,fun x hx=>by cases hx⟩
  | some x =>
   rcases h.secs with h0|⟨b,off,rfl,hc⟩
   ·have:=(List.getElem?_eq_some_iff.1 hj).1
    omega
   ·obtain⟨xa,xn,xc,h1,h2,h3,h4⟩:=hc j x hj
    refine⟨.slice xa xn xc,rfl,fun y hy => ?_⟩
    cases hy
    refine⟨xW h hj h4,fun ad e => ?_⟩
    cases e
    rw[Addr.add_lit]
    exact h4
 obtain⟨q,hq⟩:=Classical.axiomOfChoice hex
 refine⟨(List.range n).map q,⟨by simp[hl],fun i x hx => ?_⟩,by simp,fun ad had j u hu => ?_,fun u hu => ?_⟩
 ·have hi:=(List.getElem?_eq_some_iff.1 hx).1
  exact⟨q i,by rw[List.getElem?_map,List.getElem?_range om];rfl,((hq i).2 x hx).1⟩
 ·rw[List.getElem?_map]at hu
  obtain⟨k,hk,rfl⟩:=Option.map_eq_some_iff.1 hu
  have hj:j<n:=by
   have:=(List.getElem?_eq_some_iff.1 hk).1
   simpa using this
  rw[List.getElem?_range hj]at hk
  cases hk
  obtain⟨x,hx⟩:=av hl hj
  exact((hq j).2 x hx).2 ad had
 ·obtain⟨k,_,rfl⟩:=List.mem_map.1 hu
  exact(hq k).1
theorem mE (b off n c:Nat)(a2:Option Addr)(m c2:Nat)(s:List (List UInt8))(l:List (Int × List UInt8))(w0 w:World)(hs:Sl 1 (aN Nz) w0 (some ⟨b,off,none⟩) n s)(hl:Sl 2 (ie Nz) w0 a2 m l)(hB0:Below w0.heap.size w0 w)(hn1:1<=n)(hn:n<=4096)(hm:m<=4096)
  (hbad:∀(i:Nat) x,l[i]? = some x->0<=x.1/\x.1<n) :
  Calls Tryz.prog 92 #[.slice (some ⟨b,off,none⟩) n c,.slice a2 m c2] w fun e w'=>(∃g cap vs,e=.returned (.slice (some ⟨g,0,none⟩) n cap)/\w.heap.size<=g/\n<=cap/\w'.ownsRow w.heap.size 40 1 (.slice (some ⟨g,0,none⟩) n cap) n vs/\cf Nz w0 vs (a9 s l))/\Below w.heap.size w w':=by
 obtain⟨vs,hv,hvl,hvc,hv1⟩:=vP hs
 have HLEN:=aa hl.len
 have HSL:=aa hs.len
 go_enter Tryz.func92,Tryz.ntmps92
 go_wp2_with fail
 refine(sw ⟨b,off,none⟩ n c vs w hn1 hn hvl (fun j u hu=>ag hB0 (hvc _ rfl j u hu)) hv1).mono ?_
 rintro e w1 ⟨⟨g,cap,rfl,hg,hcap,hown⟩,hB⟩
 have HV:=aa hv
 have HOWN:=aa hown
 have HW:=aa hl.writes
 clear hv hvl hvc hown hs
 go_wp2
 go_loopw [12] (fun i wr=>∃(k:Nat) (vs:List Value),k<=m/\i=.int .i64 k/\wr.ownsRow w.heap.size 40 1 (.slice (some ⟨g,0,none⟩) n cap) n vs/\cf Nz w0 vs (a9 s (l.take k))/\Below w.heap.size w wr) (fun i _=>m-(intOf i).toNat)
 case atStart=>exact⟨0,vs,Nat.zero_le _,rfl,HOWN.out,HV.out,hB⟩
 case round =>
  clear HOWN HV hv1 hB
  obtain⟨k,vs,hk,rfl,hown,hv,hB⟩:=hrel
  have HOWN:=aa hown
  have HV:=aa hv
  clear hown hv
  by_cases hlt:k<m
  ·obtain⟨x,hx⟩:=av HLEN.out hlt
   rcases HW.out with h0|⟨f2,o2,rfl,hc2⟩
   ·omega
   obtain⟨xa,xn,xc,xm,xc',hxs,hcell0,hcell⟩:=hc2 k x hx
   obtain⟨g1,g2⟩:=hbad k x hx
   have hBx:=hB0.trans (hB.mono hB0.size)
   have s1:=ag hBx hcell0
   have s2:=ag hBx hcell
   have hf2:f2<wr.heap.size:=World.block_lt_of_cell? _ _ s1
   have HN:=aa (qu s l k x hx)
   have HX:Hid (aN Nz w0 [.slice xa xn xc] x.2):=ti hl hx hcell
   obtain⟨p,hp⟩:=Int.eq_ofNat_of_zero_le g1
   rw[hp]at s1 g1 g2
   have HP:=aa hp
   have hpn:p<n:=om
   have hlt':g<wr.heap.size:=(HOWN.out.lt g rfl).2
   obtain⟨u0,hu0⟩:∃u0,vs[p]? = some u0:=⟨_,List.getElem?_eq_getElem (by have:=HOWN.out.1;omega)⟩
   have hgc0:wr.cell? ⟨g,p,none⟩=some u0:=(HOWN.out.cellAt p om).trans hu0
   have hgc:(wr.cell? ⟨g,p,none⟩).isSome=true:=by rw[hgc0];rfl
   clear hu0
   have hgf:wr.frozen? ⟨g,p,none⟩=false:=HOWN.out.frozenAt p
   clear hx hxs hcell0 hcell hc2 hp
   go_wp2
   go_roundw
   case rel =>
    have hs1:=hB.size
    refine⟨k+1,vs.set p (.slice xa xn xc),om,by go_num,(HOWN.out.stored p _).1.alloc _,?_,?_⟩
    ·rw[HN.out,show x.1.toNat=p by rw[HP.out];rfl]
     exact HV.out.set p HX.out
    ·exact(hB.setCell (p:=⟨g,p,none⟩) hg _).alloc (by simpa using hs1) _
   case measure=>simp[intOf];omega
  ·obtain rfl:k=m:=om
   go_wp2
   go_ret
   refine⟨⟨g,cap,vs,rfl,hg,hcap,HOWN.out,?_⟩,hB⟩
   have:=HV.out
   rw[List.take_of_length_le (by have:=HLEN.out;omega)]at this
   exact this
end Go.Proofs.YtmflnpdmlfmcpaaGreatDoor
namespace Go.Proofs.YtmflnpdmlfmcpaaGreatDoor
open Go.RowKit
variable {Nz : Nat}
theorem pd {d:aj}(h:d.okB=true):∀(i:Nat) x,d.pend[i]? = some x->0<=x.1/\x.1<d.secs.length/\x.2.length=128:=by
 intro i x hx
 simp only[aj.okB,Bool.and_eq_true,decide_eq_true_eq,Bool.not_eq_true',List.any_eq_false]at h
 have:=h.1.2 x (List.mem_of_getElem? hx)
 simp[gN]at this
 omega
theorem qR {d:aj}(h:d.okB=true):∀(i:Nat) x,d.secs[i]? = some x->x.length=128:=by
 intro i x hx
 simp only[aj.okB,Bool.and_eq_true,decide_eq_true_eq,Bool.not_eq_true',List.any_eq_false]at h
 have:=h.2 x (List.mem_of_getElem? hx)
 simp[eq]at this
 omega
theorem ng {d:aj}(h:d.okB=true) : -1<=d.left/\d.left<=65536:=by
 simp only[aj.okB,Bool.and_eq_true,decide_eq_true_eq]at h
 omega
theorem fh {d:aj}(h:d.runs=true):d.okB=true/\d.stopped=false:=by
 unfold aj.runs at h
 simpa using h
theorem nh {w:World}{base n cap:Nat}{a:Option Addr}{vs:List Value}{s:List (List UInt8)}(h:w.ownsRow base 40 1 (.slice a n cap) n vs)(hv:cf Nz w vs s):n<=maxLen/\n<=cap/\Sl 1 (aN Nz) w a n s/\bO Nz w a n:=by
 have hl:s.length=n:=by have:=h.1;have:=hv.1;omega
 obtain⟨h1,h2,h3⟩:=d8 (R:=aN Nz) h s hl hv.2
 exact⟨h1,h2,h3,bO.own h (.inr (.inl rfl))⟩
theorem cf.below {w w':World}{vs:List Value}{s:List (List UInt8)}(h:cf Nz w vs s)(hB:Below w.heap.size w w'):cf Nz w' vs s:=
 ⟨h.1,fun i x hx=>by obtain⟨u,h1,h2⟩:=h.2 i x hx;exact⟨u,h1,aN.keeps _ _ _ _ hB h2⟩⟩
def cW (b:Nat)(w w':World):Prop:=∀k,k≠b->w'.heap[k]? = w.heap[k]?
theorem cW.refl (b:Nat)(w:World):cW b w w:=fun _ _=>rfl
theorem cW.setCell {b:Nat}{w w':World}(h:cW b w w')(i:Nat)(u:Value):cW b w (w'.setCell ⟨b,i,none⟩ u):=fun k hk=>(Below.heap_setCell _ _ _ _ hk).trans (h k hk)
theorem yf (a1:Option Addr)(n1 c1:Nat)(a2:Option Addr)(n2 c2:Nat)(d:aj)(w:World)(h:bF Nz w a1 n1 c1 a2 n2 c2 d)(hr:d.runs=false) :
  Calls Tryz.prog 51 #[.agg #[.slice a1 n1 c1,.slice a2 n2 c2,.int .i64 d.left,.bool d.stopped]] w fun e w' =>
   (∃v,e=.returned (.tuple #[v,.int .i64 d.sync.2])/\eJ Nz w' v d.sync.1)/\Below w.heap.size w w':=by
 have H:=aa h
 clear h
 have HRD:Hid (d.sync=(aj.zero,40)):=by simp[Hid,aj.sync,hr]
 go_enter Tryz.func51,Tryz.ntmps51
 go_wp2_with fail
 refine(kC _ _ _ _ _ _ _ _ (H.out.below ?hb)).mono ?_
 case hb=>go_grown
 rintro e w1 ⟨rfl,hB⟩
 obtain⟨rl,r0,r1,r2,r3,⟨j0,j1,j2,j3⟩,z0,z1,z2,z3⟩:=aF hB (ak (n:=w.heap.size+1) _ (by simp))
 have hB1:Below w.heap.size w w1:=Below.trans (by go_grown) (hB.mono (by simp;omega))
 rw[hr]
 clear hB hr
 go_wp2
 refine bodyPost_ret (by simp[results,Tryz.results51,go_sem,r0,r1,r2,r3];try rfl) rfl ?_
 exact⟨⟨_,by rw[HRD.out],by rw[HRD.out];exact ge _⟩,by go_grown⟩
theorem vQ (a1:Option Addr)(n1 c1:Nat)(a2:Option Addr)(n2 c2:Nat)(d:aj)(w:World)(h:bF Nz w a1 n1 c1 a2 n2 c2 d)(hr:d.runs=true)(hf:¬(0<=d.left/\d.left<n2)) :
  Calls Tryz.prog 51 #[.agg #[.slice a1 n1 c1,.slice a2 n2 c2,.int .i64 d.left,.bool d.stopped]] w fun e w' =>
   (∃v,e=.returned (.tuple #[v,.int .i64 d.sync.2])/\eJ Nz w' v d.sync.1)/\Below w.heap.size w w':=by
 have H:=aa h
 have L1:=h.secs.len
 have L2:=h.pend.len
 obtain⟨hok,hst⟩:=fh hr
 obtain⟨z1,z2,z3⟩:=ls hok
 obtain⟨l1,l2⟩:=ng hok
 have hbad:=pd hok
 rw[L1]at z1 z2 hbad
 rw[L2]at z3
 have HRD:Hid (d.sync=(⟨a9 d.secs d.pend,[],if 0<=d.left then d.left-n2 else d.left,false⟩,0)):=by
  show _=_
  unfold aj.sync
  rw[if_pos hr,if_neg (by rw[L2];exact hf),L2]
 have HBAD:=aa hbad
 clear h hok hbad L1 L2
 obtain⟨dl,hdl⟩:=zg d.left
 rw[<-hdl]at hf l1 l2
 have HRD:Hid (d.sync=(⟨a9 d.secs d.pend,[],if 0<=dl then dl-n2 else dl,false⟩,0)):=by rw[hdl];exact HRD.out
 have HR:Hid (∀W,Below w.heap.size w W->Calls Tryz.prog 86 #[.agg #[.slice a1 n1 c1,.slice a2 n2 c2,.int .i64 dl,.bool d.stopped]] W fun e w'=>e=.returned (.bool true)/\Below W.heap.size W w'):=fun W hW=>by
  rw[hdl,<-hr]
  exact kC _ _ _ _ _ _ _ _ (H.out.below hW)
 rw[<-hdl]
 clear hdl hr hst
 obtain⟨b1',o1',rfl⟩:∃b o,a1=some ⟨b,o,none⟩:=by
  rcases H.out.secs.secs with h0|⟨b,o,h0,_⟩
  ·omega
  ·exact⟨b,o,h0⟩
 go_enter Tryz.func51,Tryz.ntmps51
 go_wp2_with fail
 refine(HR.out _ ?hb).mono ?_
 case hb=>go_grown
 rintro e w1 ⟨rfl,hB⟩
 obtain⟨bl,b0,b1,b2,b3,⟨_,i1,_,_⟩,_,y1,_⟩:=aF hB (aB _ (ak _ rfl))
 obtain⟨rl,r0,r1,r2,r3,⟨j0,j1,j2,j3⟩,z0,z1,z2,z3⟩:=aF hB (ak (n:=w.heap.size+1) _ (by simp))
 have HX2:Hid (w1.heap[w.heap.size+1]? = some (.cells zK 27 (0,0))):=(hB.block _ (by simp)).trans (ak _ (by simp))
 have hB1:Below w.heap.size w w1:=Below.trans (by go_grown) (hB.mono (by simp;omega))
 clear hB
 have HC:Hid (∀W,Below w.heap.size w W->Calls Tryz.prog 92 #[.slice (some ⟨b1',o1',none⟩) n1 c1,.slice a2 n2 c2] W fun e w'=>(∃g cap vs,e=.returned (.slice (some ⟨g,0,none⟩) n1 cap)/\W.heap.size<=g/\n1<=cap/\w'.ownsRow W.heap.size 40 1 (.slice (some ⟨g,0,none⟩) n1 cap) n1 vs/\cf Nz w vs (a9 d.secs d.pend))/\Below W.heap.size W w'):=fun W hW =>
  mE _ _ _ _ _ _ _ _ _ w W H.out.secs H.out.pend hW om om om (fun i x hx=>by have:=HBAD.out i x hx;omega)
 have hfin:Hid (∀(w3 W:World) (g cap:Nat) (vs:List Value) (l:Int),w1.heap.size<=g->w3.ownsRow w1.heap.size 40 1 (.slice (some ⟨g,0,none⟩) n1 cap) n1 vs->cf Nz w vs (a9 d.secs d.pend)->cW (w.heap.size+1) w3 W->Below w.heap.size w W ->
   eJ Nz W (.agg #[.slice (some ⟨g,0,none⟩) n1 cap,.slice none 0 0,.int .i64 l,.bool false]) ⟨a9 d.secs d.pend,[],l,false⟩):=by
  intro w3 W g cap vs l hg hown hsv hO hB
  obtain⟨h1,h2,h3,h4⟩:=nh (cZ hown (fun k hk=>hO k (by simp[Value.ownBlock]at hk;omega))) (hsv.below hB)
  exact⟨_,_,_,none,0,0,rfl,h3,Sl.nil _ _ _ _,h1,by unfold maxLen;omega,h2,Nat.le_refl _,h4,bO.zero _ _⟩
 have HF:=hfin
 clear hfin
 rcases(show dl<0\/(0<=dl/\(n2:Int)<=dl) by omega) with hd|⟨hd1,hd2⟩
 ·have HE:Hid (d.sync=(⟨a9 d.secs d.pend,[],dl,false⟩,0)):=by
   show _=_
   rw[HRD.out,if_neg om]
  go_wp2_with fail
  go_region_held3 (fun W=>W.cell? ⟨w.heap.size,0,none⟩=some (.slice (some ⟨b1',o1',none⟩) n1 c1)/\W.cell? ⟨w.heap.size,1,none⟩=some (.slice a2 n2 c2)/\W.cell? ⟨w.heap.size,2,none⟩=some (.int .i64 dl))
   (first|go_keep|exact C4 hBb ‹_›)
   (first|(go_at_call 92;refine(HC.out _ (below_drewN hB1 1)).mono ?_;rintro e w3 ⟨⟨g,cap,vs,rfl,hg,hcap,hown,hsv⟩,hBb⟩;obtain⟨rl,r0,r1,r2,r3,⟨j0,j1,j2,j3⟩,z0,z1,z2,z3⟩:=aF hBb HX2.out;have HOWN:=aa hown;have HSV:=aa hsv;clear hown hsv))
  have hs1:=hBb.size
  have hB3:Below w.heap.size w w3:=(below_drewN hB1 1).trans (hBb.mono hB1.size)
  clear HR HC HBAD
  have hx4:Hid (((((w3.setCell ⟨w.heap.size+1,0,none⟩ (.slice (some ⟨g,0,none⟩) n1 cap)).setCell ⟨w.heap.size+1,1,none⟩ (.slice none 0 0)).setCell ⟨w.heap.size+1,2,none⟩ (.int .i64 dl)).setCell ⟨w.heap.size+1,3,none⟩ (.bool false)).heap[w.heap.size+1]? = some (.cells #[.slice (some ⟨g,0,none⟩) n1 cap,.slice none 0 0,.int .i64 dl,.bool false] 27 (0,0))):=by
   have:=ax (ax (ax (ax ((hBb.block _ (lt_of_block HX2.out)).trans HX2.out) 0 (.slice (some ⟨g,0,none⟩) n1 cap)) 1 (.slice none 0 0)) 2 (.int .i64 dl)) 3 (.bool false)
   simpa[Hid] using this
  have hO:cW (w.heap.size+1) w3 ((((w3.setCell ⟨w.heap.size+1,0,none⟩ (.slice (some ⟨g,0,none⟩) n1 cap)).setCell ⟨w.heap.size+1,1,none⟩ (.slice none 0 0)).setCell ⟨w.heap.size+1,2,none⟩ (.int .i64 dl)).setCell ⟨w.heap.size+1,3,none⟩ (.bool false)):=((((cW.refl _ _).setCell _ _).setCell _ _).setCell _ _).setCell _ _
  have hB4:Below w.heap.size w ((((w3.setCell ⟨w.heap.size+1,0,none⟩ (.slice (some ⟨g,0,none⟩) n1 cap)).setCell ⟨w.heap.size+1,1,none⟩ (.slice none 0 0)).setCell ⟨w.heap.size+1,2,none⟩ (.int .i64 dl)).setCell ⟨w.heap.size+1,3,none⟩ (.bool false)):=by go_grown
  generalize ((((w3.setCell ⟨w.heap.size+1,0,none⟩ (.slice (some ⟨g,0,none⟩) n1 cap)).setCell ⟨w.heap.size+1,1,none⟩ (.slice none 0 0)).setCell ⟨w.heap.size+1,2,none⟩ (.int .i64 dl)).setCell ⟨w.heap.size+1,3,none⟩ (.bool false))=w4 at *
  obtain⟨rl,r0,r1,r2,r3,⟨j0,j1,j2,j3⟩,z0,z1,z2,z3⟩:=aF (Below.refl _ w4) hx4.out
  go_wp2
  refine bodyPost_ret (by simp[results,Tryz.results51,go_sem,r0,r1,r2,r3];try rfl) rfl ?_
  refine⟨⟨_,by rw[HE.out],?_⟩,?_⟩
  ·rw[HE.out]
   refine HF.out w3 _ g cap vs dl hg HOWN.out HSV.out ?_ ?_
   ·exact(((hO.setCell _ _).setCell _ _).setCell _ _).setCell _ _
   ·go_grown
  ·go_grown
 ·have HE:Hid (d.sync=(⟨a9 d.secs d.pend,[],dl-n2,false⟩,0)):=by
   show _=_
   rw[HRD.out,if_pos hd1]
  go_wp2_with fail
  go_region_held3 (fun W=>W.cell? ⟨w.heap.size,0,none⟩=some (.slice (some ⟨b1',o1',none⟩) n1 c1)/\W.cell? ⟨w.heap.size,1,none⟩=some (.slice a2 n2 c2)/\W.cell? ⟨w.heap.size,2,none⟩=some (.int .i64 dl))
   (first|go_keep|exact C4 hBb ‹_›)
   (first|(go_at_call 92;refine(HC.out _ (below_drewN hB1 1)).mono ?_;rintro e w3 ⟨⟨g,cap,vs,rfl,hg,hcap,hown,hsv⟩,hBb⟩;obtain⟨rl,r0,r1,r2,r3,⟨j0,j1,j2,j3⟩,z0,z1,z2,z3⟩:=aF hBb HX2.out;have HOWN:=aa hown;have HSV:=aa hsv;clear hown hsv))
  have hs1:=hBb.size
  have hB3:Below w.heap.size w w3:=(below_drewN hB1 1).trans (hBb.mono hB1.size)
  clear HR HC HBAD
  have hx4:Hid (((((w3.setCell ⟨w.heap.size+1,0,none⟩ (.slice (some ⟨g,0,none⟩) n1 cap)).setCell ⟨w.heap.size+1,1,none⟩ (.slice none 0 0)).setCell ⟨w.heap.size+1,2,none⟩ (.int .i64 dl)).setCell ⟨w.heap.size+1,3,none⟩ (.bool false)).heap[w.heap.size+1]? = some (.cells #[.slice (some ⟨g,0,none⟩) n1 cap,.slice none 0 0,.int .i64 dl,.bool false] 27 (0,0))):=by
   have:=ax (ax (ax (ax ((hBb.block _ (lt_of_block HX2.out)).trans HX2.out) 0 (.slice (some ⟨g,0,none⟩) n1 cap)) 1 (.slice none 0 0)) 2 (.int .i64 dl)) 3 (.bool false)
   simpa[Hid] using this
  have hO:cW (w.heap.size+1) w3 ((((w3.setCell ⟨w.heap.size+1,0,none⟩ (.slice (some ⟨g,0,none⟩) n1 cap)).setCell ⟨w.heap.size+1,1,none⟩ (.slice none 0 0)).setCell ⟨w.heap.size+1,2,none⟩ (.int .i64 dl)).setCell ⟨w.heap.size+1,3,none⟩ (.bool false)):=((((cW.refl _ _).setCell _ _).setCell _ _).setCell _ _).setCell _ _
  have hB4:Below w.heap.size w ((((w3.setCell ⟨w.heap.size+1,0,none⟩ (.slice (some ⟨g,0,none⟩) n1 cap)).setCell ⟨w.heap.size+1,1,none⟩ (.slice none 0 0)).setCell ⟨w.heap.size+1,2,none⟩ (.int .i64 dl)).setCell ⟨w.heap.size+1,3,none⟩ (.bool false)):=by go_grown
  generalize ((((w3.setCell ⟨w.heap.size+1,0,none⟩ (.slice (some ⟨g,0,none⟩) n1 cap)).setCell ⟨w.heap.size+1,1,none⟩ (.slice none 0 0)).setCell ⟨w.heap.size+1,2,none⟩ (.int .i64 dl)).setCell ⟨w.heap.size+1,3,none⟩ (.bool false))=w4 at *
  obtain⟨rl,r0,r1,r2,r3,⟨j0,j1,j2,j3⟩,z0,z1,z2,z3⟩:=aF (Below.refl _ w4) hx4.out
  have hw:IntKind.i64.wrap (dl-n2)=dl-n2:=by rw[IntKind.wrap_i64];omega
  go_wp2
  refine bodyPost_ret (by simp[results,Tryz.results51,go_sem,r0,r1,r2,r3];try rfl) rfl ?_
  refine⟨⟨_,by rw[HE.out],?_⟩,?_⟩
  ·rw[HE.out]
   refine HF.out w3 _ g cap vs _ hg HOWN.out HSV.out ?_ ?_
   ·exact((((hO.setCell _ _).setCell _ _).setCell _ _).setCell _ _).setCell _ _
   ·go_grown
  ·go_grown
end Go.Proofs.YtmflnpdmlfmcpaaGreatDoor
namespace Go.Proofs.YtmflnpdmlfmcpaaGreatDoor
open Go.RowKit
variable {Nz : Nat}
theorem Sl.take {α:Type}{k:Nat}{R:World->List Value->α->Prop}{w:World}{a:Option Addr}{n m:Nat}{xs:List α}(h:Sl k R w a n xs)(hm:m<=n):Sl k R w a m (xs.take m):=by
 obtain⟨hl,h⟩:=h
 refine⟨by simp;omega,?_⟩
 rcases h with rfl|⟨b,off,rfl,hc⟩
 ·exact .inl om
 ·refine .inr ⟨b,off,rfl,fun i x hx => ?_⟩
  rw[List.getElem?_take]at hx
  split at hx
  ·exact hc i x hx
  ·cases hx
theorem qS {w:World}{b:Nat}{t:TypeId}{o0 o1 o2 o3:Value}(h:w.heap[b]? = some (.cells #[o0,o1,o2,o3] t (0,0)))(v0 v1 v2 v3:Value) :
  ((((w.setCell ⟨b,0,none⟩ v0).setCell ⟨b,1,none⟩ v1).setCell ⟨b,2,none⟩ v2).setCell ⟨b,3,none⟩ v3).heap[b]? = some (.cells #[v0,v1,v2,v3] t (0,0)) /\
  cW b w ((((w.setCell ⟨b,0,none⟩ v0).setCell ⟨b,1,none⟩ v1).setCell ⟨b,2,none⟩ v2).setCell ⟨b,3,none⟩ v3):=by
 refine⟨?_,((((cW.refl _ _).setCell _ _).setCell _ _).setCell _ _).setCell _ _⟩
 have:=ax (ax (ax (ax h 0 v0) 1 v1) 2 v2) 3 v3
 simpa using this
theorem cW.cell {b:Nat}{w w':World}(h:cW b w w'){p:Addr}(hp:p.block≠b):w'.cell? p=w.cell? p:=World.cell?_of_block (h _ hp)
theorem vR (a1:Option Addr)(n1 c1:Nat)(a2:Option Addr)(n2 c2:Nat)(d:aj)(w:World)(h:bF Nz w a1 n1 c1 a2 n2 c2 d)(hr:d.runs=true)(hf:0<=d.left/\d.left<n2) :
  Calls Tryz.prog 51 #[.agg #[.slice a1 n1 c1,.slice a2 n2 c2,.int .i64 d.left,.bool d.stopped]] w fun e w' =>
   (∃v,e=.returned (.tuple #[v,.int .i64 d.sync.2])/\eJ Nz w' v d.sync.1)/\Below w.heap.size w w':=by
 have H:=aa h
 have L1:=h.secs.len
 have L2:=h.pend.len
 have k2:=h.k2
 obtain⟨hok,hst⟩:=fh hr
 obtain⟨z1,z2,z3⟩:=ls hok
 have hbad:=pd hok
 have hbs:=qR hok
 rw[L1]at z1 z2 hbad
 rw[L2]at z3
 obtain⟨L,hL⟩:=Int.eq_ofNat_of_zero_le hf.1
 have hLn:L<n2:=om
 obtain⟨x,hx⟩:=av L2 hLn
 obtain⟨x1,x2,x3⟩:=hbad L x hx
 obtain⟨p,hp⟩:=Int.eq_ofNat_of_zero_le x1
 have hpn:p<n1:=om
 obtain⟨s,hs⟩:∃s,(a9 d.secs (d.pend.take L))[p]? = some s:=⟨_,List.getElem?_eq_getElem (by rw[fq];omega)⟩
 have HRD:Hid (d.sync=(⟨(a9 d.secs (d.pend.take L)).set p (x.2.take 64++s.drop 64),[],0,true⟩,40)):=by
  show _=_
  unfold aj.sync
  have e1:d.left.toNat=L:=by rw[hL];rfl
  have e2:x.1.toNat=p:=by rw[hp];rfl
  rw[if_pos hr,if_pos (by rw[L2];exact hf),e1]
  simp[List.getD,hx,e2,hs]
 have hs128:s.length=128:=by
  have gen:∀(l:List (Int × List UInt8)) (ss:List (List UInt8)),(∀y ∈ l,y.2.length=128)->(∀y ∈ ss,y.length=128)->∀y ∈ a9 ss l,y.length=128:=by
   intro l
   induction l with
   | nil=>intro ss _ h;exact h
   | cons q l ih =>
    intro ss h1 h2
    refine ih _ (fun y hy=>h1 y (List.mem_cons_of_mem _ hy)) (fun y hy => ?_)
    rcases List.mem_or_eq_of_mem_set hy with h|h
    ·exact h2 y h
    ·rw[h];exact h1 q List.mem_cons_self
  refine gen _ _ (fun y hy => ?_) (fun y hy => ?_) s (List.mem_of_getElem? hs)
  ·obtain⟨i,hi⟩:=List.mem_iff_getElem?.1 (List.mem_of_mem_take hy)
   exact(hbad i y hi).2.2
  ·obtain⟨i,hi⟩:=List.mem_iff_getElem?.1 hy
   exact hbs i y hi
 obtain⟨b1',o1',rfl⟩:∃b o,a1=some ⟨b,o,none⟩:=by
  rcases h.secs.secs with h0|⟨b,o,h0,_⟩
  ·omega
  ·exact⟨b,o,h0⟩
 obtain⟨b2',o2',rfl,hw2⟩:∃b o,a2=some ⟨b,o,none⟩/\∃xa xc,Sl 1 ai w xa 128 x.2/\w.cell? ⟨b,o+L*2,none⟩=some (.int .i64 x.1)/\w.cell? ⟨b,o+L*2+1,none⟩=some (.slice xa 128 xc)/\128<=xc:=by
  rcases h.pend.writes with h0|⟨b,o,h0,hc⟩
  ·omega
  ·obtain⟨xa,xn,xc,q1,q2,q3,q4,q5⟩:=hc L x hx
   have hxn:xn=128:=by rw[<-x3,q3.len]
   rw[hxn]at q3 q5 q2
   exact⟨b,o,h0,xa,xc,q3,q4,q5,q2⟩
 obtain⟨xa,xc,hxs,hc0,hc1,hxc⟩:=hw2
 rw[hp]at hc0
 have hb2l:b2'<w.heap.size:=World.block_lt_of_cell? _ _ hc0
 have HXS:=aa hxs
 have HXL:=aa x3
 have HS:=aa hs
 have HS8:=aa hs128
 have HC:Hid (∀W,Below w.heap.size w W->Calls Tryz.prog 92 #[.slice (some ⟨b1',o1',none⟩) n1 c1,.slice (some ⟨b2',o2',none⟩) L L] W fun e w'=>(∃g cap vs,e=.returned (.slice (some ⟨g,0,none⟩) n1 cap)/\W.heap.size<=g/\n1<=cap/\w'.ownsRow W.heap.size 40 1 (.slice (some ⟨g,0,none⟩) n1 cap) n1 vs/\cf Nz w vs (a9 d.secs (d.pend.take L)))/\Below W.heap.size W w'):=fun W hW =>
  mE _ _ _ _ _ _ _ _ _ w W h.secs (h.pend.take om) hW om om om (fun i x hx=>by
   rw[List.getElem?_take]at hx
   split at hx
   ·have:=hbad i x hx;omega
   ·cases hx)
 have HR:Hid (∀W,Below w.heap.size w W->Calls Tryz.prog 86 #[.agg #[.slice (some ⟨b1',o1',none⟩) n1 c1,.slice (some ⟨b2',o2',none⟩) n2 c2,.int .i64 L,.bool d.stopped]] W fun e w'=>e=.returned (.bool true)/\Below W.heap.size W w'):=fun W hW=>by
  have e:(L:Int)=d.left:=hL.symm
  rw[e,<-hr]
  exact kC _ _ _ _ _ _ _ _ (h.below hW)
 rw[show d.left=(L:Int) from hL]
 clear h hok hbad hbs L1 L2 hL hf hr hst hx x1 x2 x3 hp hs hs128 hxs
 go_enter Tryz.func51,Tryz.ntmps51
 go_wp2_with fail
 refine(HR.out _ ?hb).mono ?_
 case hb=>go_grown
 rintro e w1 ⟨rfl,hB⟩
 obtain⟨bl,b0,b1,b2,b3,⟨_,i1,_,_⟩,_,y1,_⟩:=aF hB (aB _ (ak _ rfl))
 have HX2:Hid (w1.heap[w.heap.size+1]? = some (.cells zK 27 (0,0))):=(hB.block _ (by simp)).trans (ak _ (by simp))
 have hB1:Below w.heap.size w w1:=Below.trans (by go_grown) (hB.mono (by simp;omega))
 clear hB HR
 go_wp2_with fail
 refine(HC.out _ hB1).mono ?_
 rintro e w2 ⟨⟨g,cap,vs,rfl,hg,hcap,hown,hsv⟩,hB⟩
 have b0:=ag hB b0
 have b1:=ag hB b1
 have b2:=ag hB b2
 have b3:=ag hB b3
 obtain⟨rl,r0,r1,r2,r3,⟨j0,j1,j2,j3⟩,z0,z1,z2,z3⟩:=aF hB HX2.out
 have hB2:=hB1.trans (hB.mono hB1.size)
 have hc0:=ag hB2 hc0
 have hc1:=ag hB2 hc1
 obtain⟨u,hu,ua,un,uc,hue,hum,huc,hus,_⟩:=hsv.2 p s HS.out
 simp only[List.cons.injEq,and_true]at hue
 subst hue
 have hun:un=128:=by rw[<-HS8.out,hus.len]
 subst hun
 have hcg:w2.cell? ⟨g,p,none⟩=some (.slice ua 128 uc):=(hown.cellAt p om).trans hu
 have hgl:=(hown.lt g rfl).2
 have HOWN:=aa hown
 have HSV:=aa hsv
 obtain⟨b3',o3',rfl⟩:∃b o,ua=some ⟨b,o,none⟩:=by
  rcases hus.2 with h0|⟨b,o,h0,_⟩
  ·omega
  ·exact⟨b,o,h0⟩
 obtain⟨fs1,fs2,fs3,fs4⟩:=bV hus
 have HFS:=aa fs3
 obtain⟨fx1,fx2,fx3,fx4⟩:=bV HXS.out
 have HFX:=aa fx3
 have hX2:w2.heap[w.heap.size+1]? = some (.cells zK 27 (0,0)):=(hB.block _ (lt_of_block HX2.out)).trans HX2.out
 obtain⟨hX3,hO3⟩:=qS hX2 (.slice (some ⟨g,0,none⟩) n1 cap) (.slice none 0 0) (.int .i64 0) (.bool true)
 have hB3:Below w.heap.size w ((((w2.setCell ⟨w.heap.size+1,0,none⟩ (.slice (some ⟨g,0,none⟩) n1 cap)).setCell ⟨w.heap.size+1,1,none⟩ (.slice none 0 0)).setCell ⟨w.heap.size+1,2,none⟩ (.int .i64 0)).setCell ⟨w.heap.size+1,3,none⟩ (.bool true)):=by go_grown
 have hz3:((((w2.setCell ⟨w.heap.size+1,0,none⟩ (.slice (some ⟨g,0,none⟩) n1 cap)).setCell ⟨w.heap.size+1,1,none⟩ (.slice none 0 0)).setCell ⟨w.heap.size+1,2,none⟩ (.int .i64 0)).setCell ⟨w.heap.size+1,3,none⟩ (.bool true)).heap.size=w2.heap.size:=by simp
 have hs1:=hB.size
 have hb12:=lt_of_block HX2.out
 have HZ3:=aa hz3
 have HX3:=aa hX3
 have HO3:=aa hO3
 clear hown hsv hus hu HC fs1 fs2 fs3 fx1 fx2 fx3 hX2 hX3 hO3 hz3
 go_upto_region 7 with (fail)
 generalize ((((w2.setCell ⟨w.heap.size+1,0,none⟩ (.slice (some ⟨g,0,none⟩) n1 cap)).setCell ⟨w.heap.size+1,1,none⟩ (.slice none 0 0)).setCell ⟨w.heap.size+1,2,none⟩ (.int .i64 0)).setCell ⟨w.heap.size+1,3,none⟩ (.bool true))=w3 at *
 clear r0 r1 r2 r3 j0 j1 j2 j3 z0 z1 z2 z3
 obtain⟨rl,r0,r1,r2,r3,⟨j0,j1,j2,j3⟩,z0,z1,z2,z3⟩:=aF (Below.refl _ w3) HX3.out
 have hbl:w.heap.size<w3.heap.size:=om
 have b1:=(HO3.out.cell (p:=⟨w.heap.size,1,none⟩) (by simp)).trans b1
 have b2:=(HO3.out.cell (p:=⟨w.heap.size,2,none⟩) (by simp)).trans b2
 have hc0:=(HO3.out.cell (p:=⟨b2',o2'+L*2,none⟩) (by simp;omega)).trans hc0
 have hc1:=(HO3.out.cell (p:=⟨b2',o2'+L*2+1,none⟩) (by simp;omega)).trans hc1
 have hcg:=(HO3.out.cell (p:=⟨g,p,none⟩) (by simp;omega)).trans hcg
 have hgl3:g<w3.heap.size:=by have:=HZ3.out;omega
 go_wp2_with fail
 refine(sz ⟨b3',o3',none⟩ 128 uc (af s) _ om om (by simp[af,HS8.out]) (fun j u hu=>ag (hB3.alloc om _) (HFS.out _ rfl j u hu)) fs4).mono ?_
 rintro e w4 ⟨⟨g4,cap4,rfl,hg4,hcap4,hown4⟩,hB4⟩
 rw[World.size_alloc]at hg4 hB4
 have hB3a:Below w3.heap.size w3 w4:=((Below.refl _ w3).alloc (Nat.le_refl _) (.cells #[.int .i64 p,.slice xa 128 xc] 64)).trans (hB4.mono (Nat.le_succ _))
 obtain⟨_,q0,q1,_,_,_,_⟩:=Bp (w:=w3.alloc (.cells #[.int .i64 p,.slice xa 128 xc] 64)) (hB4.mono (by simp)) (ak _ rfl)
 have hX4:w4.heap[w.heap.size+1]? = some (.cells #[.slice (some ⟨g,0,none⟩) n1 cap,.slice none 0 0,.int .i64 0,.bool true] 27 (0,0)):=(hB3a.block _ om).trans HX3.out
 clear r0 r1 r2 r3 j0 j1 j2 j3 z0 z1 z2 z3 rl
 obtain⟨rl,r0,r1,r2,r3,⟨j0,j1,j2,j3⟩,z0,z1,z2,z3⟩:=aF (Below.refl _ w4) hX4
 have hcg4:=ag hB3a hcg
 obtain⟨b4',o4',rfl⟩:∃b o,xa=some ⟨b,o,none⟩:=by
  rcases HXS.out.2 with h0|⟨b,o,h0,_⟩
  ·omega
  ·exact⟨b,o,h0⟩
 obtain⟨cur,hrow4,hcur⟩:∃cur:List Value,w4.heap[g4]? = some (.cells cur.toArray 5 (0,0))/\cur.take 128=af s:=by
  rcases hown4.2 with ⟨h,_⟩|⟨g',cap',cur,h,_,hh,_,_,hsz,htk⟩
  ·cases h
  ·cases h
   exact⟨cur.toList,by simpa using hh,htk⟩
 obtain⟨cs,hcs⟩:=zg (af (x.2.take 64))
 have hcl:cs.length=64:=by rw[hcs];unfold af;rw[List.length_map,List.length_take,HXL.out];rfl
 have hcurl:128<=cur.length:=by
  have:=congrArg List.length hcur
  simp[af,HS8.out]at this
  omega
 have Q1:Hid (cs.length=Nat.min 128 64):=hcl
 have Q2:Hid (∀j v,cs[j]? = some v->w4.drew.cell? ((⟨b4',o4',none⟩:Addr).add j)=some v):=by
  intro j v hv
  have hB24:Below w.heap.size w w4:=hB3.trans (hB3a.mono om)
  refine ag hB24.drew (HFX.out _ rfl j v ?_)
  have hj:j<64:=by rw[<-hcl];exact(List.getElem?_eq_some_iff.1 hv).1
  rw[hcs]at hv
  simp only[af,List.getElem?_map,List.getElem?_take]at hv ⊢
  rw[if_pos hj]at hv
  exact hv
 have Q3:Hid (0+cs.length<=cur.length):=by show _<=_;omega
 have Q4:Hid (∀v ∈ cs,v.oneCell'=true):=by
  rw[hcs]
  intro v hv
  obtain⟨y,_,rfl⟩:=List.mem_map.1 hv
  rfl
 have HCS:=aa hcs
 have HCUR:=aa hcur
 have HCL:=aa hcl
 have HROW:=aa hrow4
 have HX4:=aa hX4
 have HOWN3:=aa (cZ HOWN.out (fun k hk=>HO3.out k (by simp[Value.ownBlock]at hk;omega)))
 have HOWN4:=aa (cZ HOWN3.out (fun k hk=>hB3a.block k (by simp[Value.ownBlock]at hk;omega)))
 have hB44:Below (w3.heap.size+1) w4 w4.drew:=(Below.refl _ w4).drew
 have hc64:(64:Int)<=(cap4:Int):=om
 have hs4:=hB3a.size
 clear hcs hcur hcl hrow4 hX4 hown4 fs4 fx4 hcg b1 b2 hc0 hc1
 go_wp2_with fail
 go_region_law (first|(refine step_copy_splice rfl (.tmp 50) (.tmp 52) 40 40 rfl 5 Tryz.underlying40 qB (some ⟨g4,0,none⟩) (some ⟨b4',o4',none⟩) 64 cap4 128 xc ?hd ?hs g4 0 cur 5 HROW.out cs Q1.out (fun _=>⟨rfl,⟨b4',o4',none⟩,rfl,Q2.out⟩) Q3.out Q4.out (w3.heap.size+1) w4 hB44 hg4 ?_;(case hd=>simp[Act.eval]);(case hs=>simp[Act.eval]);intro w5 HG5 hB5))
 have hX5:w5.heap[w.heap.size+1]? = some (.cells #[.slice (some ⟨g,0,none⟩) n1 cap,.slice none 0 0,.int .i64 0,.bool true] 27 (0,0)):=(hB5.block _ om).trans HX4.out
 have HX5:=aa hX5
 clear r0 r1 r2 r3 j0 j1 j2 j3 z0 z1 z2 z3 rl
 obtain⟨rl,r0,r1,r2,r3,⟨j0,j1,j2,j3⟩,z0,z1,z2,z3⟩:=aF (Below.refl _ w5) hX5
 have HOWN5:=aa (cZ HOWN4.out (fun k hk=>hB5.block k (by simp[Value.ownBlock]at hk;omega)))
 have hcg5:=(hB5.cell (p:=⟨g,p,none⟩) (by simp;omega)).trans hcg4
 have hcg5s:(w5.cell? ⟨g,p,none⟩).isSome=true:=by rw[hcg5];rfl
 have hcg5f:w5.frozen? ⟨g,p,none⟩=false:=HOWN5.out.frozenAt p
 have hq0:=(hB5.cell (p:=⟨w3.heap.size,0,none⟩) (by simp)).trans q0
 have hs5:=hB5.size
 have hg5:g<w5.heap.size:=om
 have hB5':Below w.heap.size w w5:=(hB3.trans (hB3a.mono om)).trans (hB5.mono om)
 clear hX5 q0 q1 hcg4 hB5 hB44 hB4 hB3a
 go_upto_region 11 with (fail)
 have hX6:(w5.setCell ⟨g,p,none⟩ (.slice (some ⟨g4,0,none⟩) 128 cap4)).heap[w.heap.size+1]? = some (.cells #[.slice (some ⟨g,0,none⟩) n1 cap,.slice none 0 0,.int .i64 0,.bool true] 27 (0,0)):=(Below.heap_setCell _ _ _ _ (by simp;omega)).trans HX5.out
 have hown6:=(HOWN5.out.stored p (.slice (some ⟨g4,0,none⟩) 128 cap4)).1
 have hrow6:(w5.setCell ⟨g,p,none⟩ (.slice (some ⟨g4,0,none⟩) 128 cap4)).heap[g4]? = some (.cells (splice cur 0 cs).toArray 5 (0,0)):=(Below.heap_setCell _ _ _ _ (by simp;omega)).trans HG5.out
 have hB6:Below w.heap.size w (w5.setCell ⟨g,p,none⟩ (.slice (some ⟨g4,0,none⟩) 128 cap4)):=hB5'.setCell (by simp;omega) _
 have HX6:=aa hX6
 have HOWN6:=aa hown6
 have HROW6:=aa hrow6
 clear hX6 hown6 hrow6
 generalize w5.setCell ⟨g,p,none⟩ (.slice (some ⟨g4,0,none⟩) 128 cap4)=w6 at *
 clear r0 r1 r2 r3 j0 j1 j2 j3 z0 z1 z2 z3 rl hcg5 hcg5s hcg5f hq0
 obtain⟨rl,r0,r1,r2,r3,⟨j0,j1,j2,j3⟩,z0,z1,z2,z3⟩:=aF (Below.refl _ w6) HX6.out
 go_wp2
 refine bodyPost_ret (by simp[results,Tryz.results51,go_sem,r0,r1,r2,r3];try rfl) rfl ?_
 have hO:cW (w.heap.size+1) w6 ((((w6.setCell ⟨w.heap.size+1,0,none⟩ (.slice (some ⟨g,0,none⟩) n1 cap)).setCell ⟨w.heap.size+1,1,none⟩ (.slice none 0 0)).setCell ⟨w.heap.size+1,2,none⟩ (.int .i64 0)).setCell ⟨w.heap.size+1,3,none⟩ (.bool true)):=((((cW.refl _ _).setCell _ _).setCell _ _).setCell _ _).setCell _ _
 have hBW:Below w.heap.size w ((((w6.setCell ⟨w.heap.size+1,0,none⟩ (.slice (some ⟨g,0,none⟩) n1 cap)).setCell ⟨w.heap.size+1,1,none⟩ (.slice none 0 0)).setCell ⟨w.heap.size+1,2,none⟩ (.int .i64 0)).setCell ⟨w.heap.size+1,3,none⟩ (.bool true)):=by go_grown
 generalize ((((w6.setCell ⟨w.heap.size+1,0,none⟩ (.slice (some ⟨g,0,none⟩) n1 cap)).setCell ⟨w.heap.size+1,1,none⟩ (.slice none 0 0)).setCell ⟨w.heap.size+1,2,none⟩ (.int .i64 0)).setCell ⟨w.heap.size+1,3,none⟩ (.bool true))=W at *
 have hrowW:ac W g4 5 (splice cur 0 cs):=(hO g4 om).trans HROW6.out
 have hownW:=cZ HOWN6.out (fun k hk=>hO k (by simp[Value.ownBlock]at hk;omega))
 have hT:(x.2.take 64++s.drop 64).length=128:=by have:=HXL.out;have:=HS8.out;simp;omega
 have hsp:∀(j:Nat) (y:UInt8),(x.2.take 64++s.drop 64)[j]? = some y->(splice cur 0 cs)[j]? = some (.int .u8 y.toNat):=by
  intro j y hy
  have hj:j<128:=by rw[<-hT];exact(List.getElem?_eq_some_iff.1 hy).1
  have e:(splice cur 0 cs).take 128=af (x.2.take 64++s.drop 64):=by
   unfold splice
   rw[List.take_zero,List.nil_append,Nat.zero_add,HCL.out,List.take_append,HCL.out,List.take_of_length_le (by rw[HCL.out];omega),List.take_drop,show 64+(128-64)=128 from rfl,HCUR.out,HCS.out]
   simp[af]
  have e2:=congrArg (fun l:List Value=>l[j]?) e
  simp only[List.getElem?_take,if_pos hj,af,List.getElem?_map,hy]at e2
  exact e2
 have hbs:aN Nz W [.slice (some ⟨g4,0,none⟩) 128 cap4] (x.2.take 64++s.drop 64):=
  ⟨_,128,cap4,rfl,by unfold maxLen;omega,hcap4,iZ _ 128 hT hrowW (fun j y hy=>⟨_,hsp j y hy,rfl⟩),bO.row hrowW (.inl rfl)⟩
 obtain⟨e1,e2,e3,e4⟩:=nh hownW ((HSV.out.below hBW).set p hbs)
 refine⟨⟨_,by rw[HRD.out],?_⟩,hBW⟩
 rw[HRD.out]
 exact⟨_,_,_,none,0,0,rfl,e3,Sl.nil _ _ _ _,e1,by unfold maxLen;omega,e2,Nat.le_refl _,e4,bO.zero _ _⟩
theorem yg (a1:Option Addr)(n1 c1:Nat)(a2:Option Addr)(n2 c2:Nat)(d:aj)(w:World)(h:bF Nz w a1 n1 c1 a2 n2 c2 d) :
  Calls Tryz.prog 51 #[.agg #[.slice a1 n1 c1,.slice a2 n2 c2,.int .i64 d.left,.bool d.stopped]] w fun e w' =>
   (∃v,e=.returned (.tuple #[v,.int .i64 d.sync.2])/\eJ Nz w' v d.sync.1)/\Below w.heap.size w w':=by
 cases hr:d.runs
 ·exact yf _ _ _ _ _ _ d w h hr
 ·by_cases hf:0<=d.left/\d.left<n2
  ·exact vR _ _ _ _ _ _ d w h hr hf
  ·exact vQ _ _ _ _ _ _ d w h hr hf
end Go.Proofs.YtmflnpdmlfmcpaaGreatDoor
