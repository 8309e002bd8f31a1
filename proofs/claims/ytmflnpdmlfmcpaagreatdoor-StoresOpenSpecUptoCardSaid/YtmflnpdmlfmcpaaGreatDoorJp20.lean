/- Joined texts. -/
import Derived.Test.YtmflnpdmlfmcpaaGreatDoorJp19
set_option maxRecDepth 100000
set_option maxHeartbeats 16000000
namespace Go.Proofs.YtmflnpdmlfmcpaaGreatDoor.Dr
open Go.RowKit
theorem tC {o:Oper}{act:Act}{W:World}(p q:Operand)(ho:o.op=.binOp .rem 75 p q 75)(u m:Nat)(hu:u<18446744073709551616)(hm:u%2=m)(hp:act.eval p=.int .u64 (u:Int))(hq:act.eval q=.int .u64 2):(execOp act.eval o).run Tryz.prog W=.ok (.value (.int .u64 (m:Int))) W:=by
 subst hm
 have h3:IntKind.u64.wrap ((u:Int).tmod 2)=((u%2:Nat):Int):=by rw[Int.tmod_eq_emod_of_nonneg om,IntKind.wrap_u64];omega
 have h':(binOp .rem 75 (.int .u64 (u:Int)) (.int .u64 2)).run Tryz.prog W=.ok (.int .u64 ((u%2:Nat):Int)) W:=by
  rw[<-h3]
  go_simp
  try exact Int.tmod_eq_emod_of_nonneg om
 unfold execOp
 simp only[ho,hp,hq]
 rw[show (eqGuard .rem 75 p q (.int .u64 (u:Int)) (.int .u64 2))=pure () from rfl]
 simp only[Sem.run_bind,Sem.run_pure,Result.andThen_ok,h']
theorem tD {o:Oper}{act:Act}{W:World}(p q:Operand)(ho:o.op=.binOp .quo 75 p q 75)(u m:Nat)(hu:u<18446744073709551616)(hm:u/2=m)(hp:act.eval p=.int .u64 (u:Int))(hq:act.eval q=.int .u64 2):(execOp act.eval o).run Tryz.prog W=.ok (.value (.int .u64 (m:Int))) W:=by
 subst hm
 have h3:IntKind.u64.wrap ((u:Int).tdiv 2)=((u/2:Nat):Int):=by rw[Int.tdiv_eq_ediv_of_nonneg om,IntKind.wrap_u64];omega
 have h':(binOp .quo 75 (.int .u64 (u:Int)) (.int .u64 2)).run Tryz.prog W=.ok (.int .u64 ((u/2:Nat):Int)) W:=by
  rw[<-h3]
  go_simp
  try exact Int.tdiv_eq_ediv_of_nonneg om
 unfold execOp
 simp only[ho,hp,hq]
 rw[show (eqGuard .quo 75 p q (.int .u64 (u:Int)) (.int .u64 2))=pure () from rfl]
 simp only[Sem.run_bind,Sem.run_pure,Result.andThen_ok,h']
theorem AM {o:Oper}{act:Act}{W:World}(p:Operand)(ho:o.op=.unOp .neg 3 p)(m:Nat)(hm:m<9223372036854775808)(hp:act.eval p=.int .i64 (m:Int)):(execOp act.eval o).run Tryz.prog W=.ok (.value (.int .i64 (-(m:Int)))) W:=by
 have h3:IntKind.i64.wrap (-(m:Int)) = -(m:Int):=by rw[IntKind.wrap_i64];omega
 refine Eq.trans ?_ (show Result.ok (Next.value (.int .i64 (IntKind.i64.wrap (-(m:Int))))) W=_ by rw[h3])
 unfold execOp
 simp only[ho,hp]
 go_simp
theorem AN {o:Oper}{act:Act}{W:World}(p q:Operand)(ho:o.op=.binOp .sub 3 p q 3)(m:Nat)(hm:m<9223372036854775808)(hp:act.eval p=.int .i64 (-(m:Int)))(hq:act.eval q=.int .i64 1):(execOp act.eval o).run Tryz.prog W=.ok (.value (.int .i64 (-(m:Int)-1))) W:=by
 have h3:IntKind.i64.wrap (-(m:Int)-1) = -(m:Int)-1:=by rw[IntKind.wrap_i64];omega
 have h':(binOp .sub 3 (.int .i64 (-(m:Int))) (.int .i64 1)).run Tryz.prog W=.ok (.int .i64 (-(m:Int)-1)) W:=by
  refine Eq.trans ?_ (show Result.ok (.int .i64 (IntKind.i64.wrap (-(m:Int)-1))) W=_ by rw[h3])
  kernel_rfl
 unfold execOp
 simp only[ho,hp,hq]
 rw[show (eqGuard .sub 3 p q (.int .i64 (-(m:Int))) (.int .i64 1))=pure () from rfl]
 simp only[Sem.run_bind,Sem.run_pure,Result.andThen_ok,h']
theorem pt {o:Oper}{act:Act}{W:World}(p q:Operand)(ho:o.op=.binOp .sub 3 p q 3)(x y z:Nat)(hx:x<=1000000000)(hz:x=y+z)(hp:act.eval p=.int .i64 (x:Int))(hq:act.eval q=.int .i64 (y:Int)):(execOp act.eval o).run Tryz.prog W=.ok (.value (.int .i64 (z:Int))) W:=by
 have h3:IntKind.i64.wrap ((x:Int)-(y:Int))=(z:Int):=by rw[IntKind.wrap_i64];omega
 have h':(binOp .sub 3 (.int .i64 (x:Int)) (.int .i64 (y:Int))).run Tryz.prog W=.ok (.int .i64 (z:Int)) W:=by
  refine Eq.trans ?_ (show Result.ok (.int .i64 (IntKind.i64.wrap ((x:Int)-(y:Int)))) W=_ by rw[h3])
  kernel_rfl
 unfold execOp
 simp only[ho,hp,hq]
 rw[show (eqGuard .sub 3 p q (.int .i64 (x:Int)) (.int .i64 (y:Int)))=pure () from rfl]
 simp only[Sem.run_bind,Sem.run_pure,Result.andThen_ok,h']
theorem AO {o:Oper}{act:Act}{W:World}(p q:Operand)(ho:o.op=.binOp .add 3 p q 3)(x y:Nat)(hx:x+y<=1000000000)(hp:act.eval p=.int .i64 (x:Int))(hq:act.eval q=.int .i64 (y:Int)):(execOp act.eval o).run Tryz.prog W=.ok (.value (.int .i64 ((x+y:Nat):Int))) W:=by
 have h3:IntKind.i64.wrap ((x:Int)+(y:Int))=((x+y:Nat):Int):=by rw[IntKind.wrap_i64];omega
 have h':(binOp .add 3 (.int .i64 (x:Int)) (.int .i64 (y:Int))).run Tryz.prog W=.ok (.int .i64 ((x+y:Nat):Int)) W:=by
  refine Eq.trans ?_ (show Result.ok (.int .i64 (IntKind.i64.wrap ((x:Int)+(y:Int)))) W=_ by rw[h3])
  kernel_rfl
 unfold execOp
 simp only[ho,hp,hq]
 rw[show (eqGuard .add 3 p q (.int .i64 (x:Int)) (.int .i64 (y:Int)))=pure () from rfl]
 simp only[Sem.run_bind,Sem.run_pure,Result.andThen_ok,h']
theorem ry {o:Oper}{act:Act}{W:World}(p q:Operand)(ho:o.op=.binOp .gtr 75 p q 75)(x y:Nat)(b:Bool)(hb:decide (y<x)=b)(hp:act.eval p=.int .u64 (x:Int))(hq:act.eval q=.int .u64 (y:Int)):(execOp act.eval o).run Tryz.prog W=.ok (.value (.bool b)) W:=by
 have h3:decide ((y:Int)<(x:Int))=b:=by rw[<-hb];exact decide_eq_decide.2 om
 have h':(binOp .gtr 75 (.int .u64 (x:Int)) (.int .u64 (y:Int))).run Tryz.prog W=.ok (.bool b) W:=by
  rw[<-h3]
  kernel_rfl
 unfold execOp
 simp only[ho,hp,hq]
 rw[show (eqGuard .gtr 75 p q (.int .u64 (x:Int)) (.int .u64 (y:Int)))=pure () from rfl]
 simp only[Sem.run_bind,Sem.run_pure,Result.andThen_ok,h']
theorem AP {o:Oper}{act:Act}{W:World}(p q:Operand)(ho:o.op=.binOp .eql 3 p q 3)(x y:Nat)(b:Bool)(hb:decide (x=y)=b)(hp:act.eval p=.int .i64 (x:Int))(hq:act.eval q=.int .i64 (y:Int)):(execOp act.eval o).run Tryz.prog W=.ok (.value (.bool b)) W:=by
 have h3:((x:Int) == (y:Int))=b:=by rw[<-hb,Bool.eq_iff_iff,decide_eq_true_eq,beq_iff_eq];omega
 have h':(binOp .eql 3 (.int .i64 (x:Int)) (.int .i64 (y:Int))).run Tryz.prog W=.ok (.bool b) W:=by
  rw[<-h3]
  go_simp
 unfold execOp
 simp only[ho,hp,hq]
 go_simp
 try exact h3
theorem jj {o:Oper}{a:Act}{W:World}(x:Operand)(ho:o.op=.load 4 x)(p:Addr){v:Value}(hx:a.eval x=.pointer (some p))(hc:W.cell? p=some v):(execOp a.eval o).run Tryz.prog W=.ok (.value v) W:=by
 unfold execOp
 simp only[ho,hx]
 go_simp
theorem gu {o:Oper}{a:Act}{W:World}(x:Operand)(ho:o.op=.load 3 x)(p:Addr){v:Value}(hx:a.eval x=.pointer (some p))(hc:W.cell? p=some v):(execOp a.eval o).run Tryz.prog W=.ok (.value v) W:=by
 unfold execOp
 simp only[ho,hx]
 go_simp
theorem mr {o:Oper}{a:Act}{W:World}(x:Operand)(ho:o.op=.load 40 x)(p:Addr){v:Value}(hx:a.eval x=.pointer (some p))(hc:W.cell? p=some v):(execOp a.eval o).run Tryz.prog W=.ok (.value v) W:=by
 unfold execOp
 simp only[ho,hx]
 go_simp
theorem yU (a:Option Addr)(n c i u m:Nat)(hm:m=i+u)(h:m<=n)(hc:n<=c)(hs:n=0\/∃b off,a=some ⟨b,off,none⟩):∃a' c',(∀W,(Instr.slice 40 (.slice a n c) (some (.int .i64 (i:Int))) (some (.int .i64 (m:Int))) none).run Tryz.prog W=.ok (.slice a' u c') W)/\(∀W l,Sl 1 ai W a n l->Sl 1 ai W a' u ((l.drop i).take u)):=by
 have h1:(0:Int)<=(i:Int):=om
 have h2:(i:Int)<=(m:Int):=om
 have h3:(m:Int)<=(c:Int):=om
 have hlen:∀l:List UInt8,l.length=n->((l.drop i).take u).length=u:=fun l hl=>by rw[List.length_take,List.length_drop];omega
 have he:m-i=u:=om
 have hm0:(0:Int)<=(m:Int):=om
 have him:i<=m:=om
 have HM:=aa hm
 clear hm
 by_cases hci:c=i
 ·have hu:u=0:=by have:=HM.out;omega
  have hmi:m=c:=by have:=HM.out;omega
  refine⟨a,0,fun W => ?_,fun W l hl=>⟨hlen l hl.1,.inl hu⟩⟩
  clear HM he hlen
  subst hu hmi hci
  go_simp
  try rfl
 ·rcases hs with hz|⟨b,off,rfl⟩
  ·have hi0:i=0:=by have:=HM.out;omega
   have hu:u=0:=by have:=HM.out;omega
   have hm00:m=0:=by have:=HM.out;omega
   refine⟨a.map (·.add (0*1)),c,fun W => ?_,fun W l hl=>⟨hlen l hl.1,.inl hu⟩⟩
   clear HM he hlen
   subst hi0 hu hm00
   have hc0:¬c=0:=hci
   go_simp
   try rfl
  ·refine⟨some ⟨b,off+i,none⟩,c-i,fun W => ?_,fun W l hl=>⟨hlen l hl.1,?_⟩⟩
   ·have hci':¬c=i:=hci
    clear HM
    go_simp
    try simp[Addr.add,he]
   ·rcases hl.2 with h9|⟨b',off',h9,hcell⟩
    ·exact .inl om
    ·cases h9
     refine .inr ⟨b,off+i,rfl,fun j x hx => ?_⟩
     rw[List.getElem?_take]at hx
     split at hx
     ·rw[List.getElem?_drop]at hx
      obtain⟨vs,h3,h4,h5⟩:=hcell (i+j) x hx
      refine⟨vs,h3,h4,fun q v hv => ?_⟩
      have:=h5 q v hv
      simpa[Nat.add_assoc,Nat.mul_one] using this
     ·cases hx
theorem AQ {o:Oper}{act:Act}{W:World}(p q r:Operand)(ho:o.op=.slice 40 p (some q) (some r) none){a a':Option Addr}{n c c' i u m:Nat}(hp:act.eval p=.slice a n c)(hq:act.eval q=.int .i64 (i:Int))(hr:act.eval r=.int .i64 (m:Int))
  (h:(Instr.slice 40 (.slice a n c) (some (.int .i64 (i:Int))) (some (.int .i64 (m:Int))) none).run Tryz.prog W=.ok (.slice a' u c') W):(execOp act.eval o).run Tryz.prog W=.ok (.value (.slice a' u c')) W:=by
 unfold execOp
 simp only[ho,hp,hq,hr,Option.map_some,Option.map_none]
 go_simp
 try simp[h]
theorem pX {r:List UInt8}(h:bv 0 r=none):cx r=none:=by unfold cx;rw[h]
theorem rz {r s:List UInt8}{n:Nat}(h:bv 0 r=some (n,s))(hn:s.length<n):cx r=none:=by
 unfold cx;rw[h];exact if_neg om
theorem rA {r s:List UInt8}{n:Nat}(h:bv 0 r=some (n,s))(hn:n<=s.length):cx r=some (n,s):=by
 unfold cx;rw[h];exact if_pos hn
theorem oH (d:Nat){c:UInt8}{r:List UInt8}(hc:c.toNat=3)(h:cx r=none):aV d (c::r)=none:=by
 cases d with
 | zero=>exact fU r hc
 | succ d=>rw[eV d r hc,h]
def AR (d R k B:Nat)(l:List UInt8)(e:Ending)(w:World):Prop:=∃x0 x1 x2 x3,e=.returned (.agg #[x0,x1,x2,x3])/\(x0.oneCell'=true/\x1.oneCell'=true/\x2.oneCell'=true/\x3.oneCell'=true) /\
 ((∃v k',aV d (l.drop k)=some (v,l.drop k')/\k<=k'/\cu (fun q=>B<q) d w [x0,x1,x2,x3] v/\bW w R l k' false)\/(aV d (l.drop k)=none/\∃k',bW w R l k' true))
def pu (d:Nat):Prop:=∀(R k:Nat) (l:List UInt8) (w:World),d<=16->l.length<=1000000->bW w R l k false ->
  Calls Tryz.prog 131 #[.pointer (some ⟨R,0,none⟩),.int .i64 ((16-d:Nat):Int)] w fun e w'=>AR d R k w.heap.size l e w'/\az R w w'
theorem mS (d:Nat)(IH:∀d',d=d'+1->pu d'):pu d:=by
 intro R k l w hd hl h
 obtain⟨dp,hdp⟩:=zg (16-d)
 rw[<-hdp]
 have HDP:Hid (dp+d=16):=by show _=_;omega
 have HL:=aa hl
 have H:=aa h
 have HIH:=aa IH
 have hRlt:=h.lt
 clear hdp hd hl h IH
 go_enter Tryz.func131,Tryz.ntmps131
 go_upto_region 1 with (fail)
 obtain⟨X,hX⟩:=zg w.heap.size
 obtain⟨w1,hw1⟩:=zg (w.alloc (.cells #[.int .i64 0,.int .i64 0,.string ⟨#[]⟩,.slice none 0 0] 88))
 rw[<-hw1,<-hX]
 have hB1:Below w.heap.size w w1:=by rw[hw1];exact(Below.refl _ w).alloc (Nat.le_refl _) _
 have hx1:ac w1 X 88 [.int .i64 0,.int .i64 0,.string ⟨#[]⟩,.slice none 0 0]:=by rw[hw1,hX];exact ak _ rfl
 have HRX:Hid (R<X):=by show _<_;omega
 have HXW:Hid (X=w.heap.size):=hX
 have HM1:Hid (az R w w1):=.of_below hB1
 have HT:=aa (tB R k l false w1 HL.out (H.out.below hB1))
 have HX1:=aa hx1
 clear hw1 hX hx1 hB1 hRlt
 go_wp2_with fail
 refine HT.out.mono ?_
 rintro e w2 ⟨hm2,x,rfl,hx⟩
 have hx2:=hm2.row (X:=X) (by have:=HRX.out;omega) HX1.out
 have HX:=aa hx2
 have HM:Hid (az R w w2):=HM1.out.trans hm2
 clear HT HM1 HX1 hx2 hm2
 rcases hx with ⟨c,r,hlk,hrr,rfl,hr⟩|⟨hlk,rfl,hr⟩
 rotate_left
 ·have HR:=aa hr
  have HVN:Hid (aV d (l.drop k)=none):=by rw[Hid,hlk];exact fG d
  clear hlk hr
  obtain⟨ra,rn,rc,_,_,_,f0,f1,f2,z0,z1,z2,_,_,_⟩:=HR.out.cells
  go_upto_region 26 with (fail)
  obtain⟨w9,hw9⟩:=zg (w2.setCell ⟨R,2,none⟩ (.bool true))
  rw[<-hw9]
  have hmb:az R w2 w9:=by rw[hw9];exact(az.refl R w2).setCell rfl _
  have hrb:=HR.out.setBad true
  rw[<-hw9]at hrb
  have hxb:=hmb.row (X:=X) (by have:=HRX.out;omega) HX.out
  have hmm:=HM.out.trans hmb
  clear hw9 hmb f0 f1 f2 z0 z1 z2
  have HX:=aa hxb
  have HR:=aa hrb
  have HM:=aa hmm
  clear hxb hrb hmm
  refine wp_region_list ?_
  refine dd (.agg #[.int .i64 0,.int .i64 0,.string ⟨#[]⟩,.slice none 0 0]) ?_
  simp only[Act.put,zp]
  refine wpList_store_row rfl 88 (.tmp 4) (.tmp 141) rfl X #[.int .i64 0,.int .i64 0,.string ⟨#[]⟩,.slice none 0 0] ?q1a ?q1b 88 _ HX.out (aS (.int .i64 0) (.int .i64 0) (.string ⟨#[]⟩) (.slice none 0 0)) rfl kr ?_
  case q1a=>rfl
  case q1b=>rfl
  go_wp2_with fail
  refine bodyPost_ret (results_cell_row rfl _ _ X 88 #[.int .i64 0,.int .i64 0,.string ⟨#[]⟩,.slice none 0 0] (0,0) _ rfl (setRow_heap _ _ _ _ _ _ HX.out) Tryz.underlying88 rfl (aS (.int .i64 0) (.int .i64 0) (.string ⟨#[]⟩) (.slice none 0 0))) rfl ?_
  have HRF:Hid (bW _ R l _ _):=HR.out.keep fun jq hjq=>setRow_other _ X jq #[.int .i64 0,.int .i64 0,.string ⟨#[]⟩,.slice none 0 0] (by have:=HRX.out;omega)
  have HMF:Hid (az R w _):=bG (X:=X) HM.out (by have:=HXW.out;omega) #[.int .i64 0,.int .i64 0,.string ⟨#[]⟩,.slice none 0 0]
  exact⟨⟨_,_,_,_,rfl,⟨rfl,rfl,rfl,rfl⟩,.inr ⟨HVN.out,_,HRF.out⟩⟩,HMF.out⟩
 rw[hrr]at hlk
 have HLK:=aa hlk
 have HR:=aa hr
 clear hlk hrr hr
 by_cases c1:c.toNat=1
 ·have g1:((c.toNat:Int) == 1)=true:=by simp;omega
  have HV:=aa (fH d (l.drop (k+1)) c1)
  have HN:=aa (lP R (k+1) l w2 HL.out HR.out)
  clear c1
  go_wp2_with fail
  refine HN.out.mono ?_
  rintro e w3 ⟨hg,hm3⟩
  have hx3:=hm3.row (X:=X) (by have:=HRX.out;omega) HX.out
  have hmm:=HM.out.trans hm3
  have HX:=aa hx3
  have HM:=aa hmm
  clear HN hm3 g1 hx3 hmm HR
  rcases hg with ⟨u,k',hn,hk',hkl,rfl,hr⟩|⟨hn,rfl,k',hr⟩
  ·have hu:=(gX hn).1
   have HR:=aa hr
   obtain⟨q2,hq2⟩:∃q2,u/2=q2:=⟨_,rfl⟩
   have hq63:q2<9223372036854775808:=om
   have HKK:Hid (k<=k'):=by show _<=_;omega
   have HVV:Hid (aV d (l.drop k)=some (.int (dT u),l.drop k')):=by rw[Hid,HLK.out,HV.out,hn]
   clear hr hn hk' hkl HLK HV
   go_upto_region 4 with (fail)
   refine wp_region_list ?_
   refine dd (.int .u64 (u:Int)) ?_
   simp only[Act.put,zp]
   by_cases hodd:u%2=1
   ·have hsg:dT u = -(q2:Int)-1:=by unfold dT;rw[if_neg om,hq2]
    have HSG:=aa hsg
    clear hsg
    refine fX (.int .u64 ((1:Nat):Int)) (tC (.tmp 16) (.const (.int .u64 2)) kr u 1 hu hodd kr kr) ?_
    simp only[Act.put,zp]
    refine dd (.bool true) ?_
    simp only[Act.put,zp]
    refine wpList_nil ?_
    clear hodd
    go_upto_region 5 with (fail)
    refine wp_region_list ?_
    refine dd (.int .u64 (u:Int)) ?_
    simp only[Act.put,zp]
    refine fX (.int .u64 (q2:Int)) (tD (.tmp 19) (.const (.int .u64 2)) kr u q2 hu hq2 kr kr) ?_
    simp only[Act.put,zp]
    refine fX (.int .i64 (q2:Int)) (fC (.tmp 20) kr q2 hq63 kr) ?_
    simp only[Act.put,zp]
    refine fX (.int .i64 (-(q2:Int))) (AM (.tmp 21) kr q2 hq63 kr) ?_
    simp only[Act.put,zp]
    refine fX (.int .i64 (-(q2:Int)-1)) (AN (.tmp 22) (.const (.int .i64 1)) kr q2 hq63 kr kr) ?_
    simp only[Act.put,zp]
    refine dd (.agg #[.int .i64 1,.int .i64 (-(q2:Int)-1),.string ⟨#[]⟩,.slice none 0 0]) ?_
    simp only[Act.put,zp]
    have HU:=aa hu
    have HQ:=aa hq63
    clear hu hq63 hq2
    refine wpList_store_row rfl 88 (.tmp 4) (.tmp 24) rfl X #[.int .i64 1,.int .i64 (-(q2:Int)-1),.string ⟨#[]⟩,.slice none 0 0] ?q2a ?q2b 88 _ HX.out (aS (.int .i64 1) (.int .i64 (-(q2:Int)-1)) (.string ⟨#[]⟩) (.slice none 0 0)) rfl kr ?_
    case q2a=>rfl
    case q2b=>rfl
    go_wp2_with fail
    refine bodyPost_ret (results_cell_row rfl _ _ X 88 #[.int .i64 1,.int .i64 (-(q2:Int)-1),.string ⟨#[]⟩,.slice none 0 0] (0,0) _ rfl (setRow_heap _ _ _ _ _ _ HX.out) Tryz.underlying88 rfl (aS (.int .i64 1) (.int .i64 (-(q2:Int)-1)) (.string ⟨#[]⟩) (.slice none 0 0))) rfl ?_
    have HRF:Hid (bW _ R l _ _):=HR.out.keep fun jq hjq=>setRow_other _ X jq #[.int .i64 1,.int .i64 (-(q2:Int)-1),.string ⟨#[]⟩,.slice none 0 0] (by have:=HRX.out;omega)
    have HMF:Hid (az R w _):=bG (X:=X) HM.out (by have:=HXW.out;omega) #[.int .i64 1,.int .i64 (-(q2:Int)-1),.string ⟨#[]⟩,.slice none 0 0]
    exact⟨⟨_,_,_,_,rfl,⟨rfl,rfl,rfl,rfl⟩,.inl ⟨_,_,HVV.out,HKK.out,by rw[<-HSG.out];cases d<;>exact⟨mp HU.out,rfl⟩,HRF.out⟩⟩,HMF.out⟩
   ·have hsg:dT u=(q2:Int):=by unfold dT;rw[if_pos om,hq2]
    have HSG:=aa hsg
    clear hsg
    refine fX (.int .u64 ((0:Nat):Int)) (tC (.tmp 16) (.const (.int .u64 2)) kr u 0 hu om kr kr) ?_
    simp only[Act.put,zp]
    refine dd (.bool false) ?_
    simp only[Act.put,zp]
    refine wpList_nil ?_
    clear hodd
    go_upto_region 6 with (fail)
    refine wp_region_list ?_
    refine dd (.int .u64 (u:Int)) ?_
    simp only[Act.put,zp]
    refine fX (.int .u64 (q2:Int)) (tD (.tmp 25) (.const (.int .u64 2)) kr u q2 hu hq2 kr kr) ?_
    simp only[Act.put,zp]
    refine fX (.int .i64 (q2:Int)) (fC (.tmp 26) kr q2 hq63 kr) ?_
    simp only[Act.put,zp]
    refine dd (.agg #[.int .i64 1,.int .i64 (q2:Int),.string ⟨#[]⟩,.slice none 0 0]) ?_
    simp only[Act.put,zp]
    have HU:=aa hu
    have HQ:=aa hq63
    clear hu hq63 hq2
    refine wpList_store_row rfl 88 (.tmp 4) (.tmp 28) rfl X #[.int .i64 1,.int .i64 (q2:Int),.string ⟨#[]⟩,.slice none 0 0] ?q3a ?q3b 88 _ HX.out (aS (.int .i64 1) (.int .i64 (q2:Int)) (.string ⟨#[]⟩) (.slice none 0 0)) rfl kr ?_
    case q3a=>rfl
    case q3b=>rfl
    go_wp2_with fail
    refine bodyPost_ret (results_cell_row rfl _ _ X 88 #[.int .i64 1,.int .i64 (q2:Int),.string ⟨#[]⟩,.slice none 0 0] (0,0) _ rfl (setRow_heap _ _ _ _ _ _ HX.out) Tryz.underlying88 rfl (aS (.int .i64 1) (.int .i64 (q2:Int)) (.string ⟨#[]⟩) (.slice none 0 0))) rfl ?_
    have HRF:Hid (bW _ R l _ _):=HR.out.keep fun jq hjq=>setRow_other _ X jq #[.int .i64 1,.int .i64 (q2:Int),.string ⟨#[]⟩,.slice none 0 0] (by have:=HRX.out;omega)
    have HMF:Hid (az R w _):=bG (X:=X) HM.out (by have:=HXW.out;omega) #[.int .i64 1,.int .i64 (q2:Int),.string ⟨#[]⟩,.slice none 0 0]
    exact⟨⟨_,_,_,_,rfl,⟨rfl,rfl,rfl,rfl⟩,.inl ⟨_,_,HVV.out,HKK.out,by rw[<-HSG.out];cases d<;>exact⟨mp HU.out,rfl⟩,HRF.out⟩⟩,HMF.out⟩
  ·have HR:=aa hr
   have HVN:Hid (aV d (l.drop k)=none):=by rw[Hid,HLK.out,HV.out,hn]
   clear hr hn HLK HV
   go_upto_region 4 with (fail)
   refine wp_region_list ?_
   refine dd (.int .u64 0) ?_
   simp only[Act.put,zp]
   refine dd (.int .u64 0) ?_
   simp only[Act.put,zp]
   refine dd (.bool false) ?_
   simp only[Act.put,zp]
   refine wpList_nil ?_
   go_upto_region 6 with (fail)
   refine wp_region_list ?_
   refine dd (.int .u64 0) ?_
   simp only[Act.put,zp]
   refine dd (.int .u64 0) ?_
   simp only[Act.put,zp]
   refine dd (.int .i64 0) ?_
   simp only[Act.put,zp]
   refine dd (.agg #[.int .i64 1,.int .i64 0,.string ⟨#[]⟩,.slice none 0 0]) ?_
   simp only[Act.put,zp]
   refine wpList_store_row rfl 88 (.tmp 4) (.tmp 28) rfl X #[.int .i64 1,.int .i64 0,.string ⟨#[]⟩,.slice none 0 0] ?q4a ?q4b 88 _ HX.out (aS (.int .i64 1) (.int .i64 0) (.string ⟨#[]⟩) (.slice none 0 0)) rfl kr ?_
   case q4a=>rfl
   case q4b=>rfl
   go_wp2_with fail
   refine bodyPost_ret (results_cell_row rfl _ _ X 88 #[.int .i64 1,.int .i64 0,.string ⟨#[]⟩,.slice none 0 0] (0,0) _ rfl (setRow_heap _ _ _ _ _ _ HX.out) Tryz.underlying88 rfl (aS (.int .i64 1) (.int .i64 0) (.string ⟨#[]⟩) (.slice none 0 0))) rfl ?_
   have HRF:Hid (bW _ R l _ _):=HR.out.keep fun jq hjq=>setRow_other _ X jq #[.int .i64 1,.int .i64 0,.string ⟨#[]⟩,.slice none 0 0] (by have:=HRX.out;omega)
   have HMF:Hid (az R w _):=bG (X:=X) HM.out (by have:=HXW.out;omega) #[.int .i64 1,.int .i64 0,.string ⟨#[]⟩,.slice none 0 0]
   exact⟨⟨_,_,_,_,rfl,⟨rfl,rfl,rfl,rfl⟩,.inr ⟨HVN.out,_,HRF.out⟩⟩,HMF.out⟩
 by_cases c2:c.toNat=2
 ·have g1:((c.toNat:Int) == 1)=false:=by simp;omega
  have g2:((c.toNat:Int) == 2)=true:=by simp;omega
  have HV:=aa (eU d (l.drop (k+1)) c2)
  have HN:=aa (lP R (k+1) l w2 HL.out HR.out)
  clear c1 c2
  go_wp2_with fail
  refine HN.out.mono ?_
  rintro e w3 ⟨hg,hm3⟩
  have hx3:=hm3.row (X:=X) (by have:=HRX.out;omega) HX.out
  have hmm:=HM.out.trans hm3
  have HX:=aa hx3
  have HM:=aa hmm
  clear HN hm3 hx3 hmm HR
  clear g1 g2
  rcases hg with ⟨u,k',hn,hk',hkl,rfl,hr⟩|⟨hn,rfl,k',hr⟩
  rotate_left
  ·have HR:=aa hr
   have HVN:Hid (aV d (l.drop k)=none):=by rw[Hid,HLK.out,HV.out,pX hn]
   clear hr hn HLK HV
   obtain⟨ra,rn,rc,hrl,hrc,hrk,f0,f1,f2,z0,z1,z2,_,_,_⟩:=HR.out.cells
   go_upto_region 9 with (fail)
   refine bA (fun W=>Below w3.heap.size w3 W) kr ?_
   change aW _ _ _ _ _ _ #[false,false,false,false,false,false,false,false,false,false,false,false,false,false,false,false,false,false,false] _ (World.drew w3)
   have hS:Below w3.heap.size w3 (World.drew w3):=(Below.refl _ _).drew
   generalize World.drew w3=x0 at *
   refine ay 0 33 (.pointer (some ⟨R,0,none⟩)) rfl hS ?_
   try simp only[Act.put,zP]
   refine ay 1 34 (.pointer (some ⟨R,0,none⟩)) rfl hS ?_
   try simp only[Act.put,zP]
   refine ay 2 35 (.pointer (some ⟨R,2,none⟩)) rfl hS ?_
   try simp only[Act.put,zP]
   refine aZ 3 36 (.bool true) rfl (fun W h=>jj (.tmp 35) kr ⟨R,2,none⟩ kr (ag h f2)) hS ?_
   try simp only[Act.put,zP]
   refine ay 4 37 (.bool true) rfl hS ?_
   try simp only[Act.put,zP]
   refine cv 5 38 rfl hS ?_
   try simp only[Act.put,zP]
   refine cv 6 39 rfl hS ?_
   try simp only[Act.put,zP]
   refine cv 7 40 rfl hS ?_
   try simp only[Act.put,zP]
   refine cv 8 41 rfl hS ?_
   try simp only[Act.put,zP]
   refine cv 9 42 rfl hS ?_
   try simp only[Act.put,zP]
   refine cv 10 43 rfl hS ?_
   try simp only[Act.put,zP]
   refine cv 11 44 rfl hS ?_
   try simp only[Act.put,zP]
   refine cv 12 45 rfl hS ?_
   try simp only[Act.put,zP]
   refine cv 13 46 rfl hS ?_
   try simp only[Act.put,zP]
   refine cv 14 47 rfl hS ?_
   try simp only[Act.put,zP]
   refine cv 15 48 rfl hS ?_
   try simp only[Act.put,zP]
   refine cv 16 49 rfl hS ?_
   try simp only[Act.put,zP]
   refine cv 17 50 rfl hS ?_
   try simp only[Act.put,zP]
   refine ay 18 51 (.bool true) rfl hS ?_
   try simp only[Act.put,zP]
   refine bp kr ?_
   clear hrl hrc hrk
   have hx4:=HX.out.below hS HX.out.lt
   have hr4:=HR.out.below hS
   have hm4:=HM.out.trans (az.of_below (R:=R) hS)
   clear hS f0 f1 f2 z0 z1 z2 HX HR HM
   have HX:=aa hx4
   have HR:=aa hr4
   have HM:=aa hm4
   clear hx4 hr4 hm4
   obtain⟨ra2,rn2,rc2,_,_,_,f0,f1,f2,z0,z1,z2,_,_,_⟩:=HR.out.cells
   go_upto_region 11 with (fail)
   obtain⟨w9,hw9⟩:=zg (x0.setCell ⟨R,2,none⟩ (.bool true))
   rw[<-hw9]
   have hmb:az R x0 w9:=by rw[hw9];exact(az.refl R x0).setCell rfl _
   have hrb:=HR.out.setBad true
   rw[<-hw9]at hrb
   have hxb:=hmb.row (X:=X) (by have:=HRX.out;omega) HX.out
   have hmm:=HM.out.trans hmb
   clear hw9 hmb f0 f1 f2 z0 z1 z2
   have HX:=aa hxb
   have HR:=aa hrb
   have HM:=aa hmm
   clear hxb hrb hmm
   refine wp_region_list ?_
   refine dd (.agg #[.int .i64 0,.int .i64 0,.string ⟨#[]⟩,.slice none 0 0]) ?_
   simp only[Act.put,zp]
   refine wpList_store_row rfl 88 (.tmp 4) (.tmp 55) rfl X #[.int .i64 0,.int .i64 0,.string ⟨#[]⟩,.slice none 0 0] ?q5a ?q5b 88 _ HX.out (aS (.int .i64 0) (.int .i64 0) (.string ⟨#[]⟩) (.slice none 0 0)) rfl kr ?_
   case q5a=>rfl
   case q5b=>rfl
   go_wp2_with fail
   refine bodyPost_ret (results_cell_row rfl _ _ X 88 #[.int .i64 0,.int .i64 0,.string ⟨#[]⟩,.slice none 0 0] (0,0) _ rfl (setRow_heap _ _ _ _ _ _ HX.out) Tryz.underlying88 rfl (aS (.int .i64 0) (.int .i64 0) (.string ⟨#[]⟩) (.slice none 0 0))) rfl ?_
   have HRF:Hid (bW _ R l _ _):=HR.out.keep fun jq hjq=>setRow_other _ X jq #[.int .i64 0,.int .i64 0,.string ⟨#[]⟩,.slice none 0 0] (by have:=HRX.out;omega)
   have HMF:Hid (az R w _):=bG (X:=X) HM.out (by have:=HXW.out;omega) #[.int .i64 0,.int .i64 0,.string ⟨#[]⟩,.slice none 0 0]
   exact⟨⟨_,_,_,_,rfl,⟨rfl,rfl,rfl,rfl⟩,.inr ⟨HVN.out,_,HRF.out⟩⟩,HMF.out⟩
  have HR:=aa hr
  have HKK:Hid (k<=k'):=by show _<=_;omega
  have HNN:=aa hn
  have hu:=(gX hn).1
  clear hr hn hk' hkl
  obtain⟨ra,rn,rc,hrl,hrc,hrk,f0,f1,f2,z0,z1,z2,_,_,_⟩:=HR.out.cells
  go_upto_region 9 with (fail)
  refine bA (fun W=>Below w3.heap.size w3 W) kr ?_
  change aW _ _ _ _ _ _ #[false,false,false,false,false,false,false,false,false,false,false,false,false,false,false,false,false,false,false] _ (World.drew w3)
  have hS:Below w3.heap.size w3 (World.drew w3):=(Below.refl _ _).drew
  generalize World.drew w3=x0 at *
  obtain⟨z,hz⟩:∃z,rn=k'+z:=⟨rn-k',om⟩
  have hrn:rn<=1000000000:=by have:=HL.out;omega
  have HDL:Hid ((l.drop k').length=z):=by rw[Hid,List.length_drop];omega
  obtain⟨bb,hbb⟩:∃bb,decide (z<u)=bb:=⟨_,rfl⟩
  refine ay 0 33 (.pointer (some ⟨R,0,none⟩)) rfl hS ?_
  try simp only[Act.put,zP]
  refine ay 1 34 (.pointer (some ⟨R,0,none⟩)) rfl hS ?_
  try simp only[Act.put,zP]
  refine ay 2 35 (.pointer (some ⟨R,2,none⟩)) rfl hS ?_
  try simp only[Act.put,zP]
  refine aZ 3 36 (.bool false) rfl (fun W h=>jj (.tmp 35) kr ⟨R,2,none⟩ kr (ag h f2)) hS ?_
  try simp only[Act.put,zP]
  refine ay 4 37 (.bool false) rfl hS ?_
  try simp only[Act.put,zP]
  refine ay 5 38 (.int .u64 (u:Int)) rfl hS ?_
  try simp only[Act.put,zP]
  refine ay 6 39 (.pointer (some ⟨R,0,none⟩)) rfl hS ?_
  try simp only[Act.put,zP]
  refine ay 7 40 (.pointer (some ⟨R,0,none⟩)) rfl hS ?_
  try simp only[Act.put,zP]
  refine ay 8 41 (.pointer (some ⟨R,0,none⟩)) rfl hS ?_
  try simp only[Act.put,zP]
  refine aZ 9 42 (.slice ra rn rc) rfl (fun W h=>mr (.tmp 41) kr ⟨R,0,none⟩ kr (ag h f0)) hS ?_
  try simp only[Act.put,zP]
  refine ay 10 43 (.int .i64 (rn:Int)) rfl hS ?_
  try simp only[Act.put,zP]
  refine ay 11 44 (.pointer (some ⟨R,0,none⟩)) rfl hS ?_
  try simp only[Act.put,zP]
  refine ay 12 45 (.pointer (some ⟨R,0,none⟩)) rfl hS ?_
  try simp only[Act.put,zP]
  refine ay 13 46 (.pointer (some ⟨R,1,none⟩)) rfl hS ?_
  try simp only[Act.put,zP]
  refine aZ 14 47 (.int .i64 (k':Int)) rfl (fun W h=>gu (.tmp 46) kr ⟨R,1,none⟩ kr (ag h f1)) hS ?_
  try simp only[Act.put,zP]
  refine aZ 15 48 (.int .i64 (z:Int)) rfl (fun W h=>pt (.tmp 43) (.tmp 47) kr rn k' z hrn hz kr kr) hS ?_
  try simp only[Act.put,zP]
  refine aZ 16 49 (.int .u64 (z:Int)) rfl (fun W h=>jD (.tmp 48) kr z om kr) hS ?_
  try simp only[Act.put,zP]
  refine aZ 17 50 (.bool bb) rfl (fun W h=>ry (.tmp 38) (.tmp 49) kr u z bb hbb kr kr) hS ?_
  try simp only[Act.put,zP]
  refine ay 18 51 (.bool bb) rfl hS ?_
  try simp only[Act.put,zP]
  refine bp kr ?_
  have hx4:=HX.out.below hS HX.out.lt
  have hr4:=HR.out.below hS
  have hm4:=HM.out.trans (az.of_below (R:=R) hS)
  clear hS f0 f1 f2 z0 z1 z2 HX HR HM
  have HX:=aa hx4
  have HR:=aa hr4
  have HM:=aa hm4
  clear hx4 hr4 hm4
  cases bb with
  | true =>
   have hlt:z<u:=of_decide_eq_true hbb
   have HVN:Hid (aV d (l.drop k)=none):=by rw[Hid,HLK.out,HV.out,rz HNN.out (by have:=HDL.out;omega)]
   clear hbb hlt HNN HLK HV hu hz hrl hrc hrk hrn
   obtain⟨ra2,rn2,rc2,_,_,_,f0,f1,f2,z0,z1,z2,_,_,_⟩:=HR.out.cells
   go_upto_region 11 with (fail)
   obtain⟨w9,hw9⟩:=zg (x0.setCell ⟨R,2,none⟩ (.bool true))
   rw[<-hw9]
   have hmb:az R x0 w9:=by rw[hw9];exact(az.refl R x0).setCell rfl _
   have hrb:=HR.out.setBad true
   rw[<-hw9]at hrb
   have hxb:=hmb.row (X:=X) (by have:=HRX.out;omega) HX.out
   have hmm:=HM.out.trans hmb
   clear hw9 hmb f0 f1 f2 z0 z1 z2
   have HX:=aa hxb
   have HR:=aa hrb
   have HM:=aa hmm
   clear hxb hrb hmm
   refine wp_region_list ?_
   refine dd (.agg #[.int .i64 0,.int .i64 0,.string ⟨#[]⟩,.slice none 0 0]) ?_
   simp only[Act.put,zp]
   refine wpList_store_row rfl 88 (.tmp 4) (.tmp 55) rfl X #[.int .i64 0,.int .i64 0,.string ⟨#[]⟩,.slice none 0 0] ?q6a ?q6b 88 _ HX.out (aS (.int .i64 0) (.int .i64 0) (.string ⟨#[]⟩) (.slice none 0 0)) rfl kr ?_
   case q6a=>rfl
   case q6b=>rfl
   go_wp2_with fail
   refine bodyPost_ret (results_cell_row rfl _ _ X 88 #[.int .i64 0,.int .i64 0,.string ⟨#[]⟩,.slice none 0 0] (0,0) _ rfl (setRow_heap _ _ _ _ _ _ HX.out) Tryz.underlying88 rfl (aS (.int .i64 0) (.int .i64 0) (.string ⟨#[]⟩) (.slice none 0 0))) rfl ?_
   have HRF:Hid (bW _ R l _ _):=HR.out.keep fun jq hjq=>setRow_other _ X jq #[.int .i64 0,.int .i64 0,.string ⟨#[]⟩,.slice none 0 0] (by have:=HRX.out;omega)
   have HMF:Hid (az R w _):=bG (X:=X) HM.out (by have:=HXW.out;omega) #[.int .i64 0,.int .i64 0,.string ⟨#[]⟩,.slice none 0 0]
   exact⟨⟨_,_,_,_,rfl,⟨rfl,rfl,rfl,rfl⟩,.inr ⟨HVN.out,_,HRF.out⟩⟩,HMF.out⟩
  | false =>
   have hle:u<=z:=by have:=of_decide_eq_false hbb;omega
   have HVV:Hid (aV d (l.drop k)=some (.text ((l.drop k').take u),(l.drop k').drop u)):=by rw[Hid,HLK.out,HV.out,rA HNN.out (by have:=HDL.out;omega)]
   rw[List.drop_drop]at HVV
   obtain⟨a4,n4,c4,hrl4,hrc4,hrk4,f0,f1,f2,z0,z1,z2,hrr4,hs4,ho4⟩:=HR.out.cells
   have hu63:u<9223372036854775808:=om
   have hsum:k'+u<=1000000000:=om
   have hkl4:k'+u<=l.length:=om
   clear hbb HNN HLK HV
   go_upto_region 13 with (first
    | (refine aG (.int .i64 (u:Int)) rfl (fC (.tmp 61) rfl u hu63 rfl) ?_;simp only[Act.put,zp])
    | (refine aG (.int .i64 ((k'+u:Nat):Int)) rfl (AO (.tmp 60) (.tmp 62) rfl k' u hsum rfl rfl) ?_;simp only[Act.put,zp]))
   obtain⟨w5,hw5⟩:=zg (x0.setCell ⟨R,1,none⟩ (.int .i64 ((k':Int)+(u:Int))))
   have e5:((k'+u:Nat):Int)=(k':Int)+(u:Int):=om
   rw[<-hw5]
   have hmb:az R x0 w5:=by rw[hw5];exact(az.refl R x0).setCell rfl _
   have hrb:=HR.out.setAt hkl4
   rw[e5,<-hw5]at hrb
   have hxb:=hmb.row (X:=X) (by have:=HRX.out;omega) HX.out
   have hmm:=HM.out.trans hmb
   have hp0:w5.cell? ⟨R,0,none⟩=some (.slice a4 n4 c4):=by rw[hw5];go_simp
   have hp1:w5.cell? ⟨R,1,none⟩=some (.int .i64 ((k'+u:Nat):Int)):=by rw[hw5,e5];go_simp
   have hs5:Sl 1 ai w5 a4 n4 l:=Sl.older hs4 ho4 (fun i hi=>hmb.block i (by have:=hrr4.lt;omega) om)
   clear hw5 hmb f0 f1 f2 z0 z1 z2 hs4 hrr4 e5
   have HX:=aa hxb
   have HR:=aa hrb
   have HM:=aa hmm
   have HS5:=aa hs5
   have HO4:=aa ho4
   obtain⟨ta,tc,hrun,hts⟩:=yU a4 n4 c4 k' u (k'+u) rfl om hrc4 (by
    rcases hs5.2 with h9|⟨b,off,h9,_⟩
    ·exact .inl h9
    ·exact .inr ⟨b,off,h9⟩)
   have HRUN:=aa hrun
   have HTS:=aa hts
   clear hxb hrb hmm hs5 ho4 hrun hts
   refine bA (fun W=>W.cell? ⟨R,0,none⟩=some (.slice a4 n4 c4)/\W.cell? ⟨R,1,none⟩=some (.int .i64 ((k'+u:Nat):Int))/\Sl 1 ai W a4 n4 l) kr ?_
   change aW _ _ _ _ _ _ #[false,false,false,false,false,false,false,false,false,false,false,false,false,false,false,false,false,false,false] _ (World.drew w5)
   have hU:Below w5.heap.size w5 (World.drew w5):=(Below.refl _ _).drew
   generalize World.drew w5=x1 at *
   have hS:x1.cell? ⟨R,0,none⟩=some (.slice a4 n4 c4)/\x1.cell? ⟨R,1,none⟩=some (.int .i64 ((k'+u:Nat):Int))/\Sl 1 ai x1 a4 n4 l:=⟨ag hU hp0,ag hU hp1,HS5.out.below ai.keeps hU⟩
   refine ay 0 66 (.pointer (some ⟨R,0,none⟩)) rfl hS ?_
   try simp only[Act.put,zP]
   refine ay 1 67 (.pointer (some ⟨R,0,none⟩)) rfl hS ?_
   try simp only[Act.put,zP]
   refine ay 2 68 (.pointer (some ⟨R,0,none⟩)) rfl hS ?_
   try simp only[Act.put,zP]
   refine aZ 3 69 (.slice a4 n4 c4) rfl (fun W h=>mr (.tmp 68) kr ⟨R,0,none⟩ kr h.1) hS ?_
   try simp only[Act.put,zP]
   refine ay 4 70 (.pointer (some ⟨R,0,none⟩)) rfl hS ?_
   try simp only[Act.put,zP]
   refine ay 5 71 (.pointer (some ⟨R,0,none⟩)) rfl hS ?_
   try simp only[Act.put,zP]
   refine ay 6 72 (.pointer (some ⟨R,1,none⟩)) rfl hS ?_
   try simp only[Act.put,zP]
   refine aZ 7 73 (.int .i64 ((k'+u:Nat):Int)) rfl (fun W h=>gu (.tmp 72) kr ⟨R,1,none⟩ kr h.2.1) hS ?_
   try simp only[Act.put,zP]
   refine ay 8 74 (.int .u64 (u:Int)) rfl hS ?_
   try simp only[Act.put,zP]
   refine aZ 9 75 (.int .i64 (u:Int)) rfl (fun W h=>fC (.tmp 74) kr u hu63 kr) hS ?_
   try simp only[Act.put,zP]
   refine aZ 10 76 (.int .i64 (k':Int)) rfl (fun W h=>pt (.tmp 73) (.tmp 75) kr (k'+u) u k' hsum om kr kr) hS ?_
   try simp only[Act.put,zP]
   refine ay 11 77 (.pointer (some ⟨R,0,none⟩)) rfl hS ?_
   try simp only[Act.put,zP]
   refine ay 12 78 (.pointer (some ⟨R,0,none⟩)) rfl hS ?_
   try simp only[Act.put,zP]
   refine ay 13 79 (.pointer (some ⟨R,1,none⟩)) rfl hS ?_
   try simp only[Act.put,zP]
   refine aZ 14 80 (.int .i64 ((k'+u:Nat):Int)) rfl (fun W h=>gu (.tmp 79) kr ⟨R,1,none⟩ kr h.2.1) hS ?_
   try simp only[Act.put,zP]
   refine aZ 15 81 (.slice ta u tc) rfl (fun W h=>AQ (.tmp 69) (.tmp 76) (.tmp 80) kr kr kr kr (HRUN.out W)) hS ?_
   try simp only[Act.put,zP]
   refine aZ 16 82 (.string (aw ((l.drop k').take u))) rfl (fun W h=>iV (ad:=ta) (n:=u) (c:=tc) (.tmp 81) kr kr (HTS.out W l h.2.2)) hS ?_
   try simp only[Act.put,zP]
   refine ay 17 83 (.agg #[.int .i64 2,.int .i64 0,.string (aw ((l.drop k').take u)),.slice none 0 0]) rfl hS ?_
   try simp only[Act.put,zP]
   have hx6:=HX.out.below hU HX.out.lt
   have hr6:=HR.out.below hU
   have hm6:=HM.out.trans (az.of_below (R:=R) hU)
   refine aU 18 kr rfl kr ?_
   refine wp_store_row 88 (.tmp 4) (.tmp 83) kr X #[.int .i64 2,.int .i64 0,.string (aw ((l.drop k').take u)),.slice none 0 0] kr kr 88 _ hx6 (aS (.int .i64 2) (.int .i64 0) (.string (aw ((l.drop k').take u))) (.slice none 0 0)) rfl kr ?_
   have hne9:R≠X:=by have:=HRX.out;omega
   refine⟨⟨?_,?_,?_⟩,?_⟩
   ·rw[World.cell?_of_block (setRow_other _ X R _ hne9)];exact hS.1
   ·rw[World.cell?_of_block (setRow_other _ X R _ hne9)];exact hS.2.1
   ·exact Sl.older hS.2.2 HO4.out (fun i hi=>setRow_other _ X i _ (by have:=HRX.out;omega))
   try simp only[Act.put,zP]
   refine bp kr ?_
   have HRF:Hid (bW _ R l _ _):=hr6.keep fun i hi=>setRow_other _ X i #[.int .i64 2,.int .i64 0,.string (aw ((l.drop k').take u)),.slice none 0 0] (by have:=HRX.out;omega)
   have HMF:Hid (az R w _):=bG (X:=X) hm6 (by have:=HXW.out;omega) #[.int .i64 2,.int .i64 0,.string (aw ((l.drop k').take u)),.slice none 0 0]
   have HXF:=aa hx6
   clear hS hU hx6 hr6 hm6 hp0 hp1 hne9
   go_wp2_with fail
   refine bodyPost_ret (results_cell_row rfl _ _ X 88 #[.int .i64 2,.int .i64 0,.string (aw ((l.drop k').take u)),.slice none 0 0] (0,0) _ rfl (setRow_heap _ _ _ _ _ _ HXF.out) Tryz.underlying88 rfl (aS (.int .i64 2) (.int .i64 0) (.string (aw ((l.drop k').take u))) (.slice none 0 0))) rfl ?_
   exact⟨⟨_,_,_,_,rfl,⟨rfl,rfl,rfl,rfl⟩,.inl ⟨_,_,HVV.out,by have:=HKK.out;omega,by cases d<;>rfl,HRF.out⟩⟩,HMF.out⟩
 by_cases c3:c.toNat=3
 rotate_left
 ·have g1:((c.toNat:Int) == 1)=false:=by simp;omega
  have g2:((c.toNat:Int) == 2)=false:=by simp;omega
  have g3:((c.toNat:Int) == 3)=false:=by simp;omega
  have HVN:Hid (aV d (l.drop k)=none):=by rw[Hid,HLK.out];exact eD d _ c1 c2 c3
  clear c1 c2 c3 HLK
  obtain⟨ra,rn,rc,_,_,_,f0,f1,f2,z0,z1,z2,_,_,_⟩:=HR.out.cells
  go_upto_region 26 with (fail)
  clear g1 g2 g3
  obtain⟨w9,hw9⟩:=zg (w2.setCell ⟨R,2,none⟩ (.bool true))
  rw[<-hw9]
  have hmb:az R w2 w9:=by rw[hw9];exact(az.refl R w2).setCell rfl _
  have hrb:=HR.out.setBad true
  rw[<-hw9]at hrb
  have hxb:=hmb.row (X:=X) (by have:=HRX.out;omega) HX.out
  have hmm:=HM.out.trans hmb
  clear hw9 hmb f0 f1 f2 z0 z1 z2
  have HX:=aa hxb
  have HR:=aa hrb
  have HM:=aa hmm
  clear hxb hrb hmm
  refine wp_region_list ?_
  refine dd (.agg #[.int .i64 0,.int .i64 0,.string ⟨#[]⟩,.slice none 0 0]) ?_
  simp only[Act.put,zp]
  refine wpList_store_row rfl 88 (.tmp 4) (.tmp 141) rfl X #[.int .i64 0,.int .i64 0,.string ⟨#[]⟩,.slice none 0 0] ?q7a ?q7b 88 _ HX.out (aS (.int .i64 0) (.int .i64 0) (.string ⟨#[]⟩) (.slice none 0 0)) rfl kr ?_
  case q7a=>rfl
  case q7b=>rfl
  go_wp2_with fail
  refine bodyPost_ret (results_cell_row rfl _ _ X 88 #[.int .i64 0,.int .i64 0,.string ⟨#[]⟩,.slice none 0 0] (0,0) _ rfl (setRow_heap _ _ _ _ _ _ HX.out) Tryz.underlying88 rfl (aS (.int .i64 0) (.int .i64 0) (.string ⟨#[]⟩) (.slice none 0 0))) rfl ?_
  have HRF:Hid (bW _ R l _ _):=HR.out.keep fun jq hjq=>setRow_other _ X jq #[.int .i64 0,.int .i64 0,.string ⟨#[]⟩,.slice none 0 0] (by have:=HRX.out;omega)
  have HMF:Hid (az R w _):=bG (X:=X) HM.out (by have:=HXW.out;omega) #[.int .i64 0,.int .i64 0,.string ⟨#[]⟩,.slice none 0 0]
  exact⟨⟨_,_,_,_,rfl,⟨rfl,rfl,rfl,rfl⟩,.inr ⟨HVN.out,_,HRF.out⟩⟩,HMF.out⟩
 have g1:((c.toNat:Int) == 1)=false:=by simp;omega
 have g2:((c.toNat:Int) == 2)=false:=by simp;omega
 have g3:((c.toNat:Int) == 3)=true:=by simp;omega
 have HC3:=aa c3
 have HN:=aa (lP R (k+1) l w2 HL.out HR.out)
 clear c1 c2 c3
 go_wp2_with fail
 refine HN.out.mono ?_
 rintro e w3 ⟨hg,hm3⟩
 have hx3:=hm3.row (X:=X) (by have:=HRX.out;omega) HX.out
 have hmm:=HM.out.trans hm3
 have HX:=aa hx3
 have HM:=aa hmm
 clear HN hm3 hx3 hmm HR
 clear g1 g2 g3
 rcases hg with ⟨u,k',hn,hk',hkl,rfl,hr⟩|⟨hn,rfl,k',hr⟩
 rotate_left
 ·have HR:=aa hr
  have HVN:Hid (aV d (l.drop k)=none):=by rw[Hid,HLK.out];exact oH d HC3.out (pX hn)
  clear hr hn HLK
  obtain⟨ra,rn,rc,hrl,hrc,hrk,f0,f1,f2,z0,z1,z2,_,_,_⟩:=HR.out.cells
  go_upto_region 16 with (fail)
  refine bA (fun W=>Below w3.heap.size w3 W) kr ?_
  change aW _ _ _ _ _ _ #[false,false,false,false,false,false,false,false,false,false,false,false,false,false,false,false,false,false,false,false,false,false,false] _ (World.drew w3)
  have hS:Below w3.heap.size w3 (World.drew w3):=(Below.refl _ _).drew
  generalize World.drew w3=x0 at *
  refine ay 0 88 (.pointer (some ⟨R,0,none⟩)) rfl hS ?_
  try simp only[Act.put,zP]
  refine ay 1 89 (.pointer (some ⟨R,0,none⟩)) rfl hS ?_
  try simp only[Act.put,zP]
  refine ay 2 90 (.pointer (some ⟨R,2,none⟩)) rfl hS ?_
  try simp only[Act.put,zP]
  refine aZ 3 91 (.bool true) rfl (fun W h=>jj (.tmp 90) kr ⟨R,2,none⟩ kr (ag h f2)) hS ?_
  try simp only[Act.put,zP]
  refine ay 4 92 (.bool true) rfl hS ?_
  try simp only[Act.put,zP]
  refine cv 5 93 rfl hS ?_
  try simp only[Act.put,zP]
  refine cv 6 94 rfl hS ?_
  try simp only[Act.put,zP]
  refine cv 7 95 rfl hS ?_
  try simp only[Act.put,zP]
  refine cv 8 96 rfl hS ?_
  try simp only[Act.put,zP]
  refine cv 9 97 rfl hS ?_
  try simp only[Act.put,zP]
  refine cv 10 98 rfl hS ?_
  try simp only[Act.put,zP]
  refine cv 11 99 rfl hS ?_
  try simp only[Act.put,zP]
  refine cv 12 100 rfl hS ?_
  try simp only[Act.put,zP]
  refine cv 13 101 rfl hS ?_
  try simp only[Act.put,zP]
  refine cv 14 102 rfl hS ?_
  try simp only[Act.put,zP]
  refine cv 15 103 rfl hS ?_
  try simp only[Act.put,zP]
  refine cv 16 104 rfl hS ?_
  try simp only[Act.put,zP]
  refine cv 17 105 rfl hS ?_
  try simp only[Act.put,zP]
  refine ay 18 106 (.bool true) rfl hS ?_
  try simp only[Act.put,zP]
  refine ay 19 107 (.bool true) rfl hS ?_
  try simp only[Act.put,zP]
  refine cv 20 108 rfl hS ?_
  try simp only[Act.put,zP]
  refine cv 21 109 rfl hS ?_
  try simp only[Act.put,zP]
  refine ay 22 110 (.bool true) rfl hS ?_
  try simp only[Act.put,zP]
  refine bp kr ?_
  clear hrl hrc hrk
  have hx4:=HX.out.below hS HX.out.lt
  have hr4:=HR.out.below hS
  have hm4:=HM.out.trans (az.of_below (R:=R) hS)
  clear hS f0 f1 f2 z0 z1 z2 HX HR HM
  have HX:=aa hx4
  have HR:=aa hr4
  have HM:=aa hm4
  clear hx4 hr4 hm4
  obtain⟨ra2,rn2,rc2,_,_,_,f0,f1,f2,z0,z1,z2,_,_,_⟩:=HR.out.cells
  go_upto_region 18 with (fail)
  obtain⟨w9,hw9⟩:=zg (x0.setCell ⟨R,2,none⟩ (.bool true))
  rw[<-hw9]
  have hmb:az R x0 w9:=by rw[hw9];exact(az.refl R x0).setCell rfl _
  have hrb:=HR.out.setBad true
  rw[<-hw9]at hrb
  have hxb:=hmb.row (X:=X) (by have:=HRX.out;omega) HX.out
  have hmm:=HM.out.trans hmb
  clear hw9 hmb f0 f1 f2 z0 z1 z2
  have HX:=aa hxb
  have HR:=aa hrb
  have HM:=aa hmm
  clear hxb hrb hmm
  refine wp_region_list ?_
  refine dd (.agg #[.int .i64 0,.int .i64 0,.string ⟨#[]⟩,.slice none 0 0]) ?_
  simp only[Act.put,zp]
  refine wpList_store_row rfl 88 (.tmp 4) (.tmp 114) rfl X #[.int .i64 0,.int .i64 0,.string ⟨#[]⟩,.slice none 0 0] ?q8a ?q8b 88 _ HX.out (aS (.int .i64 0) (.int .i64 0) (.string ⟨#[]⟩) (.slice none 0 0)) rfl kr ?_
  case q8a=>rfl
  case q8b=>rfl
  go_wp2_with fail
  refine bodyPost_ret (results_cell_row rfl _ _ X 88 #[.int .i64 0,.int .i64 0,.string ⟨#[]⟩,.slice none 0 0] (0,0) _ rfl (setRow_heap _ _ _ _ _ _ HX.out) Tryz.underlying88 rfl (aS (.int .i64 0) (.int .i64 0) (.string ⟨#[]⟩) (.slice none 0 0))) rfl ?_
  have HRF:Hid (bW _ R l _ _):=HR.out.keep fun jq hjq=>setRow_other _ X jq #[.int .i64 0,.int .i64 0,.string ⟨#[]⟩,.slice none 0 0] (by have:=HRX.out;omega)
  have HMF:Hid (az R w _):=bG (X:=X) HM.out (by have:=HXW.out;omega) #[.int .i64 0,.int .i64 0,.string ⟨#[]⟩,.slice none 0 0]
  exact⟨⟨_,_,_,_,rfl,⟨rfl,rfl,rfl,rfl⟩,.inr ⟨HVN.out,_,HRF.out⟩⟩,HMF.out⟩
 have HR:=aa hr
 have HKK:Hid (k<=k'):=by show _<=_;omega
 have HNN:=aa hn
 have hu:=(gX hn).1
 clear hr hn hk' hkl
 obtain⟨ra,rn,rc,hrl,hrc,hrk,f0,f1,f2,z0,z1,z2,_,_,_⟩:=HR.out.cells
 go_upto_region 16 with (fail)
 refine bA (fun W=>Below w3.heap.size w3 W) kr ?_
 change aW _ _ _ _ _ _ #[false,false,false,false,false,false,false,false,false,false,false,false,false,false,false,false,false,false,false,false,false,false,false] _ (World.drew w3)
 have hS:Below w3.heap.size w3 (World.drew w3):=(Below.refl _ _).drew
 generalize World.drew w3=x0 at *
 obtain⟨z,hz⟩:∃z,rn=k'+z:=⟨rn-k',om⟩
 have hrn:rn<=1000000000:=by have:=HL.out;omega
 have HDL:Hid ((l.drop k').length=z):=by rw[Hid,List.length_drop];omega
 obtain⟨bb,hbb⟩:∃bb,decide (z<u)=bb:=⟨_,rfl⟩
 refine ay 0 88 (.pointer (some ⟨R,0,none⟩)) rfl hS ?_
 try simp only[Act.put,zP]
 refine ay 1 89 (.pointer (some ⟨R,0,none⟩)) rfl hS ?_
 try simp only[Act.put,zP]
 refine ay 2 90 (.pointer (some ⟨R,2,none⟩)) rfl hS ?_
 try simp only[Act.put,zP]
 refine aZ 3 91 (.bool false) rfl (fun W h=>jj (.tmp 90) kr ⟨R,2,none⟩ kr (ag h f2)) hS ?_
 try simp only[Act.put,zP]
 refine ay 4 92 (.bool false) rfl hS ?_
 try simp only[Act.put,zP]
 refine ay 5 93 (.int .u64 (u:Int)) rfl hS ?_
 try simp only[Act.put,zP]
 refine ay 6 94 (.pointer (some ⟨R,0,none⟩)) rfl hS ?_
 try simp only[Act.put,zP]
 refine ay 7 95 (.pointer (some ⟨R,0,none⟩)) rfl hS ?_
 try simp only[Act.put,zP]
 refine ay 8 96 (.pointer (some ⟨R,0,none⟩)) rfl hS ?_
 try simp only[Act.put,zP]
 refine aZ 9 97 (.slice ra rn rc) rfl (fun W h=>mr (.tmp 96) kr ⟨R,0,none⟩ kr (ag h f0)) hS ?_
 try simp only[Act.put,zP]
 refine ay 10 98 (.int .i64 (rn:Int)) rfl hS ?_
 try simp only[Act.put,zP]
 refine ay 11 99 (.pointer (some ⟨R,0,none⟩)) rfl hS ?_
 try simp only[Act.put,zP]
 refine ay 12 100 (.pointer (some ⟨R,0,none⟩)) rfl hS ?_
 try simp only[Act.put,zP]
 refine ay 13 101 (.pointer (some ⟨R,1,none⟩)) rfl hS ?_
 try simp only[Act.put,zP]
 refine aZ 14 102 (.int .i64 (k':Int)) rfl (fun W h=>gu (.tmp 101) kr ⟨R,1,none⟩ kr (ag h f1)) hS ?_
 try simp only[Act.put,zP]
 refine aZ 15 103 (.int .i64 (z:Int)) rfl (fun W h=>pt (.tmp 98) (.tmp 102) kr rn k' z hrn hz kr kr) hS ?_
 try simp only[Act.put,zP]
 refine aZ 16 104 (.int .u64 (z:Int)) rfl (fun W h=>jD (.tmp 103) kr z om kr) hS ?_
 try simp only[Act.put,zP]
 refine aZ 17 105 (.bool bb) rfl (fun W h=>ry (.tmp 93) (.tmp 104) kr u z bb hbb kr kr) hS ?_
 try simp only[Act.put,zP]
 refine ay 18 106 (.bool bb) rfl hS ?_
 try simp only[Act.put,zP]
 cases bb with
 | true =>
  have hlt:z<u:=of_decide_eq_true hbb
  have HVN:Hid (aV d (l.drop k)=none):=by rw[Hid,HLK.out];exact oH d HC3.out (rz HNN.out (by have:=HDL.out;omega))
  clear hbb hlt HNN HLK hu hz hrn
  refine ay 19 107 (.bool true) rfl hS ?_
  try simp only[Act.put,zP]
  refine cv 20 108 rfl hS ?_
  try simp only[Act.put,zP]
  refine cv 21 109 rfl hS ?_
  try simp only[Act.put,zP]
  refine ay 22 110 (.bool true) rfl hS ?_
  try simp only[Act.put,zP]
  refine bp kr ?_
  clear hrl hrc hrk
  have hx4:=HX.out.below hS HX.out.lt
  have hr4:=HR.out.below hS
  have hm4:=HM.out.trans (az.of_below (R:=R) hS)
  clear hS f0 f1 f2 z0 z1 z2 HX HR HM
  have HX:=aa hx4
  have HR:=aa hr4
  have HM:=aa hm4
  clear hx4 hr4 hm4
  obtain⟨ra2,rn2,rc2,_,_,_,f0,f1,f2,z0,z1,z2,_,_,_⟩:=HR.out.cells
  go_upto_region 18 with (fail)
  obtain⟨w9,hw9⟩:=zg (x0.setCell ⟨R,2,none⟩ (.bool true))
  rw[<-hw9]
  have hmb:az R x0 w9:=by rw[hw9];exact(az.refl R x0).setCell rfl _
  have hrb:=HR.out.setBad true
  rw[<-hw9]at hrb
  have hxb:=hmb.row (X:=X) (by have:=HRX.out;omega) HX.out
  have hmm:=HM.out.trans hmb
  clear hw9 hmb f0 f1 f2 z0 z1 z2
  have HX:=aa hxb
  have HR:=aa hrb
  have HM:=aa hmm
  clear hxb hrb hmm
  refine wp_region_list ?_
  refine dd (.agg #[.int .i64 0,.int .i64 0,.string ⟨#[]⟩,.slice none 0 0]) ?_
  simp only[Act.put,zp]
  refine wpList_store_row rfl 88 (.tmp 4) (.tmp 114) rfl X #[.int .i64 0,.int .i64 0,.string ⟨#[]⟩,.slice none 0 0] ?q9a ?q9b 88 _ HX.out (aS (.int .i64 0) (.int .i64 0) (.string ⟨#[]⟩) (.slice none 0 0)) rfl kr ?_
  case q9a=>rfl
  case q9b=>rfl
  go_wp2_with fail
  refine bodyPost_ret (results_cell_row rfl _ _ X 88 #[.int .i64 0,.int .i64 0,.string ⟨#[]⟩,.slice none 0 0] (0,0) _ rfl (setRow_heap _ _ _ _ _ _ HX.out) Tryz.underlying88 rfl (aS (.int .i64 0) (.int .i64 0) (.string ⟨#[]⟩) (.slice none 0 0))) rfl ?_
  have HRF:Hid (bW _ R l _ _):=HR.out.keep fun jq hjq=>setRow_other _ X jq #[.int .i64 0,.int .i64 0,.string ⟨#[]⟩,.slice none 0 0] (by have:=HRX.out;omega)
  have HMF:Hid (az R w _):=bG (X:=X) HM.out (by have:=HXW.out;omega) #[.int .i64 0,.int .i64 0,.string ⟨#[]⟩,.slice none 0 0]
  exact⟨⟨_,_,_,_,rfl,⟨rfl,rfl,rfl,rfl⟩,.inr ⟨HVN.out,_,HRF.out⟩⟩,HMF.out⟩
 | false =>
  have hle:u<=z:=by have:=of_decide_eq_false hbb;omega
  have HLP:Hid (cx (l.drop (k+1))=some (u,l.drop k')):=rA HNN.out (by have:=HDL.out;omega)
  clear hbb HNN
  obtain⟨b2,hb2⟩:∃b2,decide (dp=16)=b2:=⟨_,rfl⟩
  refine ay 19 107 (.bool false) rfl hS ?_
  try simp only[Act.put,zP]
  refine ay 20 108 (.int .i64 (dp:Int)) rfl hS ?_
  try simp only[Act.put,zP]
  refine aZ 21 109 (.bool b2) rfl (fun W h=>AP (.tmp 108) (.const (.int .i64 16)) kr dp 16 b2 hb2 kr kr) hS ?_
  try simp only[Act.put,zP]
  refine ay 22 110 (.bool b2) rfl hS ?_
  try simp only[Act.put,zP]
  refine bp kr ?_
  have hx4:=HX.out.below hS HX.out.lt
  have hr4:=HR.out.below hS
  have hm4:=HM.out.trans (az.of_below (R:=R) hS)
  clear hS f0 f1 f2 z0 z1 z2 HX HR HM
  have HX:=aa hx4
  have HR:=aa hr4
  have HM:=aa hm4
  clear hx4 hr4 hm4
  cases b2 with
  | true =>
   have hd16:dp=16:=of_decide_eq_true hb2
   obtain rfl:d=0:=by have:=HDP.out;omega
   have HVN:Hid (aV 0 (l.drop k)=none):=by rw[Hid,HLK.out];exact fU _ HC3.out
   clear hb2 hd16 HLP HLK hu hz hrn hrl hrc hrk
   obtain⟨ra2,rn2,rc2,_,_,_,f0,f1,f2,z0,z1,z2,_,_,_⟩:=HR.out.cells
   go_upto_region 18 with (fail)
   obtain⟨w9,hw9⟩:=zg (x0.setCell ⟨R,2,none⟩ (.bool true))
   rw[<-hw9]
   have hmb:az R x0 w9:=by rw[hw9];exact(az.refl R x0).setCell rfl _
   have hrb:=HR.out.setBad true
   rw[<-hw9]at hrb
   have hxb:=hmb.row (X:=X) (by have:=HRX.out;omega) HX.out
   have hmm:=HM.out.trans hmb
   clear hw9 hmb f0 f1 f2 z0 z1 z2
   have HX:=aa hxb
   have HR:=aa hrb
   have HM:=aa hmm
   clear hxb hrb hmm
   refine wp_region_list ?_
   refine dd (.agg #[.int .i64 0,.int .i64 0,.string ⟨#[]⟩,.slice none 0 0]) ?_
   simp only[Act.put,zp]
   refine wpList_store_row rfl 88 (.tmp 4) (.tmp 114) rfl X #[.int .i64 0,.int .i64 0,.string ⟨#[]⟩,.slice none 0 0] ?q10a ?q10b 88 _ HX.out (aS (.int .i64 0) (.int .i64 0) (.string ⟨#[]⟩) (.slice none 0 0)) rfl kr ?_
   case q10a=>rfl
   case q10b=>rfl
   go_wp2_with fail
   refine bodyPost_ret (results_cell_row rfl _ _ X 88 #[.int .i64 0,.int .i64 0,.string ⟨#[]⟩,.slice none 0 0] (0,0) _ rfl (setRow_heap _ _ _ _ _ _ HX.out) Tryz.underlying88 rfl (aS (.int .i64 0) (.int .i64 0) (.string ⟨#[]⟩) (.slice none 0 0))) rfl ?_
   have HRF:Hid (bW _ R l _ _):=HR.out.keep fun jq hjq=>setRow_other _ X jq #[.int .i64 0,.int .i64 0,.string ⟨#[]⟩,.slice none 0 0] (by have:=HRX.out;omega)
   have HMF:Hid (az R w _):=bG (X:=X) HM.out (by have:=HXW.out;omega) #[.int .i64 0,.int .i64 0,.string ⟨#[]⟩,.slice none 0 0]
   exact⟨⟨_,_,_,_,rfl,⟨rfl,rfl,rfl,rfl⟩,.inr ⟨HVN.out,_,HRF.out⟩⟩,HMF.out⟩
  | false =>
   have hd16:dp≠16:=of_decide_eq_false hb2
   obtain⟨d',rfl⟩:∃d',d=d'+1:=⟨d-1,by have:=HDP.out;omega⟩
   have HVV:Hid (aV (d'+1) (l.drop k)=match bj (aV d') u (l.drop k') with
    | none=>none
    | some (vs,t)=>some (.list vs,t)):=by rw[Hid,HLK.out,eV d' _ HC3.out,HLP.out];rfl
   have hu6:u<=1000000:=by have:=HL.out;omega
   have HREC:=aa (HIH.out d' rfl)
   have HDE:Hid (((16-d':Nat):Int)=((dp+1:Nat):Int)):=by have:=HDP.out;show _=_;omega
   have HDP2:Hid (dp<=15/\d'<=15):=by have:=HDP.out;show _/\_;omega
   clear hb2 hd16 HLP HLK hu hz hrn hrl hrc hrk hle HIH HC3
   go_upto_region 19 with (fail)
   obtain⟨w5,hw5⟩:=zg (x0.alloc (.cells #[.int .i64 0,.int .i64 0,.string ⟨#[]⟩,.slice none 0 0] 88))
   obtain⟨X8,hX8⟩:=zg x0.heap.size
   have hB5:Below x0.heap.size x0 w5:=by rw[hw5];exact(Below.refl _ _).alloc (Nat.le_refl _) _
   have h85:ac w5 X8 88 [.int .i64 0,.int .i64 0,.string ⟨#[]⟩,.slice none 0 0]:=by rw[hw5,hX8];exact ak _ rfl
   refine wp_region_list ?_
   refine dd (.agg #[.int .i64 3,.int .i64 0,.string ⟨#[]⟩,.slice none 0 0]) ?_
   simp only[Act.put,zp]
   refine aG (w':=w5) (.pointer (some ⟨X8,0,none⟩)) kr (by rw[hw5,hX8];kernel_rfl) ?_
   simp only[Act.put,zp]
   refine wpList_store_row rfl 88 (.tmp 8) (.tmp 115) rfl X8 #[.int .i64 3,.int .i64 0,.string ⟨#[]⟩,.slice none 0 0] ?s8a ?s8b 88 _ h85 (aS (.int .i64 3) (.int .i64 0) (.string ⟨#[]⟩) (.slice none 0 0)) rfl kr ?_
   case s8a=>rfl
   case s8b=>rfl
   have hx85:X<X8:=by rw[hX8];exact HX.out.lt
   have hrx8:R<X8:=by have:=HRX.out;omega
   have hx6:ac (w5.setRow X8 #[.int .i64 3,.int .i64 0,.string ⟨#[]⟩,.slice none 0 0]) X 88 [.int .i64 0,.int .i64 0,.string ⟨#[]⟩,.slice none 0 0]:=(setRow_other _ X8 X _ om).trans (HX.out.below hB5 HX.out.lt)
   have h86:ac (w5.setRow X8 #[.int .i64 3,.int .i64 0,.string ⟨#[]⟩,.slice none 0 0]) X8 88 [.int .i64 3,.int .i64 0,.string ⟨#[]⟩,.slice none 0 0]:=setRow_heap _ _ _ _ _ _ h85
   have hr6:bW (w5.setRow X8 #[.int .i64 3,.int .i64 0,.string ⟨#[]⟩,.slice none 0 0]) R l k' false:=(HR.out.below hB5).keep fun i hi=>setRow_other _ X8 i _ om
   have hm6:az R w (w5.setRow X8 #[.int .i64 3,.int .i64 0,.string ⟨#[]⟩,.slice none 0 0]):=bG (X:=X8) (HM.out.trans (az.of_below (R:=R) hB5)) (by have:=HXW.out;omega) _
   generalize w5.setRow X8 #[.int .i64 3,.int .i64 0,.string ⟨#[]⟩,.slice none 0 0]=w6 at *
   have HXX:Hid (X<X8/\R<X8):=⟨hx85,hrx8⟩
   clear hw5 hX8 hB5 h85 hx85 hrx8 HX HR HM
   have HX:=aa hx6
   have H8:=aa h86
   have HR:=aa hr6
   have HM:=aa hm6
   clear hx6 h86 hr6 hm6
   go_wp2_with fail
   go_loopw [9] (fun s9 wr=>∃(i kk:Nat) (q:Bool) (va:Option Addr) (vc:Nat),i<=u/\s9=.int .u64 i/\ac wr X8 88 [.int .i64 3,.int .i64 0,.string ⟨#[]⟩,.slice va i vc]/\ac wr X 88 [.int .i64 0,.int .i64 0,.string ⟨#[]⟩,.slice none 0 0]/\bW wr R l kk q/\az R w wr/\((q=false/\k'<=kk/\∃(cells:List Value) (vs:List aT),dx X8 (X8+1) d' wr va i vc cells vs/\bj (aV d') u (l.drop k')=eI vs (bj (aV d') (u-i) (l.drop kk)))\/(q=true/\bj (aV d') u (l.drop k')=none))) (fun s9 _=>u-(intOf s9).toNat)
   case atStart=>exact⟨0,k',false,none,0,Nat.zero_le _,rfl,H8.out,HX.out,HR.out,HM.out,.inl ⟨rfl,Nat.le_refl _,[],[],dx.nil _ _ _ _,by cases h9:bj (aV d') u (l.drop k') with|none=>simp[eI]|some q=>obtain⟨us,t⟩:=q;simp[eI]⟩⟩
   case round =>
    clear HX H8 HR HM
    obtain⟨i,kk,q,va,vc,hi,rfl,h8,hx,hr,hm,hst⟩:=hrel
    obtain⟨_,_,_,_,_,_,_,_,f2,_,_,_,_,_,_⟩:=hr.cells
    have H8:=aa h8
    have HX:=aa hx
    have HR:=aa hr
    have HM:=aa hm
    have HST:=aa hst
    have i0:(0:Int)<=(i:Int):=om
    clear h8 hx hr hm hst
    by_cases hlt:i<u
    ·have i1:(i:Int)<(u:Int):=om
     cases q with
     | true =>
      have HVN:Hid (aV (d'+1) (l.drop k)=none):=by
       rcases HST.out with ⟨h9,_⟩|⟨_,h9⟩
       ·cases h9
       ·rw[Hid,HVV.out,h9]
      clear HST HVV
      go_upto_region 24 with (fail)
      refine wp_region_list ?_
      refine fX (.agg #[.int .i64 3,.int .i64 0,.string ⟨#[]⟩,.slice va i vc]) (aH 88 (.tmp 8) rfl X8 0 rfl [.int .i64 3,.int .i64 0,.string ⟨#[]⟩,.slice va i vc] _ (ac.range H8.out) Tryz.underlying88 rfl (kw (.int .i64 3) (.int .i64 0) (.string ⟨#[]⟩) (.slice va i vc))) ?_
      simp only[Act.put,zp]
      refine wpList_store_row rfl 88 (.tmp 4) (.tmp 137) rfl X #[.int .i64 3,.int .i64 0,.string ⟨#[]⟩,.slice va i vc] ?q11a ?q11b 88 _ HX.out (aS (.int .i64 3) (.int .i64 0) (.string ⟨#[]⟩) (.slice va i vc)) rfl kr ?_
      case q11a=>rfl
      case q11b=>rfl
      go_wp2_with fail
      refine bodyPost_ret (results_cell_row rfl _ _ X 88 #[.int .i64 3,.int .i64 0,.string ⟨#[]⟩,.slice va i vc] (0,0) _ rfl (setRow_heap _ _ _ _ _ _ HX.out) Tryz.underlying88 rfl (aS (.int .i64 3) (.int .i64 0) (.string ⟨#[]⟩) (.slice va i vc))) rfl ?_
      have HRF:Hid (bW _ R l _ _):=HR.out.keep fun jq hjq=>setRow_other _ X jq #[.int .i64 3,.int .i64 0,.string ⟨#[]⟩,.slice va i vc] (by have:=HRX.out;omega)
      have HMF:Hid (az R w _):=bG (X:=X) HM.out (by have:=HXW.out;omega) #[.int .i64 3,.int .i64 0,.string ⟨#[]⟩,.slice va i vc]
      exact⟨⟨_,_,_,_,rfl,⟨rfl,rfl,rfl,rfl⟩,.inr ⟨HVN.out,_,HRF.out⟩⟩,HMF.out⟩
     | false =>
      obtain⟨hk9,cells,vs,hva,hj⟩:k'<=kk/\∃(cells:List Value) (vs:List aT),dx X8 (X8+1) d' wr va i vc cells vs/\bj (aV d') u (l.drop k')=eI vs (bj (aV d') (u-i) (l.drop kk)):=by
       rcases HST.out with ⟨_,h8,h9⟩|⟨h9,_⟩
       ·exact⟨h8,h9⟩
       ·cases h9
      have HVA:=aa hva
      have HJ:=aa hj
      have HK9:=aa hk9
      have HKN:Hid (i<u/\u<=1000000):=⟨hlt,hu6⟩
      have HCALL:=HREC.out R kk l wr.drew (by have:=HDP2.out;omega) HL.out (HR.out.below ((Below.refl _ wr).drew))
      rw[HDE.out]at HCALL
      have HCALL:=aa HCALL
      clear hva hj hk9 HST
      go_upto_region 23 with (fail)
      clear f2
      try simp only[Act.put,zp]
      have hS:ac (World.drew wr) X8 88 [.int .i64 3,.int .i64 0,.string ⟨#[]⟩,.slice va i vc]:=H8.out
      refine bZ (fun W=>ac W X8 88 [.int .i64 3,.int .i64 0,.string ⟨#[]⟩,.slice va i vc]) 9 kr ?_
      change bT _ _ _ _ _ _ _ #[false,false,false,false,false,false,false,false,false,false] _ (World.drew wr)
      have hm0:az R wr (World.drew wr):=(az.refl R wr).drew
      generalize World.drew wr=x0 at *
      refine fp 0 (.pointer (some ⟨X8,3,none⟩)) rfl hS ?_
      try simp only[Act.put,zP]
      refine eL 1 (.slice va i vc) rfl (fun W hW=>fj (.tmp 128) kr ⟨X8,3,none⟩ kr ((ac.cell hW 3).trans rfl)) hS ?_
      try simp only[Act.put,zP]
      refine fp 2 (.pointer (some ⟨R,0,none⟩)) rfl hS ?_
      try simp only[Act.put,zP]
      refine fp 3 (.int .i64 (dp:Int)) rfl hS ?_
      try simp only[Act.put,zP]
      refine eL 4 (.int .i64 ((dp+1:Nat):Int)) rfl (fun W hW=>tz (.tmp 131) (.const (.int .i64 1)) kr dp (by have:=HDP2.out;omega) kr kr) hS ?_
      try simp only[Act.put,zP]
      refine aC 5 kr rfl rfl ?_
      refine dF 131 #[.pointer (some ⟨R,0,none⟩),.int .i64 ((dp+1:Nat):Int)] kr ?_
      refine HCALL.out.mono ?_
      rintro e x1 ⟨⟨y0,y1,y2,y3,rfl,hone,hgv⟩,hm1⟩
      have hS1:=hm1.row (X:=X8) (by have:=HXX.out;omega) hS
      have hva0:=HVA.out.moves hm0 (by have:=HXX.out;omega) (by have:=HXX.out;omega)
      have hva1:=hva0.moves hm1 (by have:=HXX.out;omega) (by have:=HXX.out;omega)
      have hx0:X8<x0.heap.size:=hS.lt
      have hown0:∀q,(Value.slice va i vc).ownBlock=some q->q<x0.heap.size:=fun q hq=>(hva0.own.lt q hq).2
      have HGV:=aa hgv
      refine .inl ⟨_,rfl,.inr hS1,?_⟩
      try simp only[Act.put,zP]
      have hal:Below x1.heap.size x1 (x1.alloc (.cells #[y0,y1,y2,y3] 88)):=(Below.refl _ _).alloc (Nat.le_refl _) _
      have hnew:ac (x1.alloc (.cells #[y0,y1,y2,y3] 88)) x1.heap.size 88 [y0,y1,y2,y3]:=ak _ rfl
      refine aC 6 kr rfl rfl ?_
      refine aO _ (pV (.tmp 133) kr y0 y1 y2 y3 kr) ?_
      have hva2:=hva1.moves (az.of_below (R:=R) hal) (by have:=HXX.out;omega) (by have:=HXX.out;omega)
      have hm2:=hm1.trans (az.of_below (R:=R) hal)
      have hS2:=hS1.below hal hS1.lt
      have HAL:=aa hal
      obtain⟨G,hG⟩:=zg x1.heap.size
      rw[<-hG]at hnew ⊢
      generalize x1.alloc (.cells #[y0,y1,y2,y3] 88)=x2 at *
      refine⟨.inr hS2,?_⟩
      try simp only[Act.put,zP]
      obtain⟨i79,hi79,hz79,hs79,hb79⟩:=tA
      refine aC 7 kr rfl rfl ?_
      refine gH (.tmp 129) (.tmp 134) 86 kr (X8+1) 88 i79 (.agg #[.int .i64 0,.int .i64 0,.string ⟨#[]⟩,.slice none 0 0]) 4 i79.bytes Tryz.underlying86 hi79 hz79 hs79 rfl rfl (by decide) (.slice va i vc) i cells kr hva2.own ⟨G,0,none⟩ 1 1 [y0,y1,y2,y3] kr rfl (fun j u hu=>by rw[Addr.add_lit,Nat.zero_add];exact(ac.cell hnew j).trans hu) (by have h9:=hone;intro u hu;simp only[List.mem_cons,List.not_mem_nil,or_false]at hu;rcases hu with rfl|rfl|rfl|rfl;exact h9.1;exact h9.2.1;exact h9.2.2.1;exact h9.2.2.2) (by have:=HKN.out;unfold maxLen;omega) (by have h9:=HKN.out;have h8:=Nat.mul_le_mul (show i+1<=1000001 by omega) hb79;omega) (by have:=hS2.lt;omega) ?_
      intro va9 vc9 x3 hown9 hgrow9 hat9
      have hne3:some X8≠(Value.slice va i vc).ownBlock:=fun e1=>by have:=bU hva2.own X8 e1.symm;omega
      have hS3:ac x3 X8 88 [.int .i64 3,.int .i64 0,.string ⟨#[]⟩,.slice va i vc]:=bx hS2 hgrow9 hne3
      have hne3x:some X≠(Value.slice va i vc).ownBlock:=fun e1=>by have:=bU hva2.own X e1.symm;have:=HXX.out;omega
      have hx3:ac x3 X 88 [.int .i64 0,.int .i64 0,.string ⟨#[]⟩,.slice none 0 0]:=bx (hm2.row (X:=X) (by have:=HRX.out;omega) (hm0.row (X:=X) (by have:=HRX.out;omega) HX.out)) hgrow9 hne3x
      have hmw3:az R w x3:=(HM.out.trans (hm0.trans hm2)).grown hgrow9 (fun q hq=>by have h9:=bU hva2.own q hq;have h8:=HXX.out;have:=HXW.out;omega)
      have hst3:(∃kk',bW x3 R l kk' false/\k'<=kk'/\∃(cells:List Value) (vs:List aT),dx X8 (X8+1) d' x3 va9 (i+1) vc9 cells vs/\bj (aV d') u (l.drop k')=eI vs (bj (aV d') (u-(i+1)) (l.drop kk')))\/(∃kk',bW x3 R l kk' true/\bj (aV d') u (l.drop k')=none):=by
       rcases HGV.out with ⟨v,kk',hv,hle,hvr,hr1⟩|⟨hv,kk',hr1⟩
       ·refine .inl ⟨kk',(hr1.below HAL.out).grown hva2.own (by have:=HXX.out;omega) hgrow9,by have:=HK9.out;omega,cells++[y0,y1,y2,y3],vs++[v],hva2.snoc rfl ?_ hown9 hgrow9 hat9,?_⟩
        ·have hvr1:cu (fun q=>X8<q/\some q≠(Value.slice va i vc).ownBlock) d' x1 [y0,y1,y2,y3] v:=hvr.mono fun q hq _=>⟨om,fun e1=>by have:=hown0 q e1.symm;omega⟩
         exact hvr1.keep fun q hq hlt=>⟨hq,HAL.out.block q hlt⟩
        ·rw[HJ.out,show u-i=(u-(i+1))+1 by have:=HKN.out;omega,oy hv]
       ·refine .inr ⟨kk',(hr1.below HAL.out).grown hva2.own (by have:=HXX.out;omega) hgrow9,?_⟩
        rw[HJ.out,show u-i=(u-i-1)+1 by have:=HKN.out;omega,oA hv]
      refine⟨.inr hS3,?_⟩
      try simp only[Act.put,zP]
      refine aC 8 kr rfl rfl ?_
      refine aO (w':=x3) (.pointer (some ⟨X8,3,none⟩)) ?y8 ?_
      case y8=>(go_simp;try rfl)
      refine⟨.inr hS3,?_⟩
      try simp only[Act.put,zP]
      refine aC 9 kr rfl rfl ?_
      unfold Oper.wp
      obtain⟨_,f0,f1,f2,f3,_,_⟩:=aF (Below.refl _ x3) hS3
      go_simp
      obtain⟨x4,hx4⟩:=zg (x3.setCell ⟨X8,3,none⟩ (.slice va9 (i+1) vc9))
      rw[<-hx4]
      have hm8:az X8 x3 x4:=by rw[hx4];exact(az.refl X8 x3).setCell rfl _
      have H89:Hid (ac x4 X8 88 [.int .i64 3,.int .i64 0,.string ⟨#[]⟩,.slice va9 (i+1) vc9]):=by rw[hx4];have h9:=ax hS3 3 (.slice va9 (i+1) vc9);simpa[Hid,ac] using h9
      have HX9:Hid (ac x4 X 88 [.int .i64 0,.int .i64 0,.string ⟨#[]⟩,.slice none 0 0]):=hm8.row (X:=X) (by have:=HXX.out;omega) hx3
      have HM9:Hid (az R w x4):=by rw[hx4];exact hmw3.setNew (by show _<=X8;have:=HXX.out;have:=HXW.out;omega) _
      have HST9:Hid ((∃kk',bW x4 R l kk' false/\k'<=kk'/\∃(cells:List Value) (vs:List aT),dx X8 (X8+1) d' x4 va9 (i+1) vc9 cells vs/\bj (aV d') u (l.drop k')=eI vs (bj (aV d') (u-(i+1)) (l.drop kk')))\/(∃kk',bW x4 R l kk' true/\bj (aV d') u (l.drop k')=none)):=by
       rcases hst3 with ⟨kk',h1,h2,cs,vs,h3,h4⟩|⟨kk',h1,h2⟩
       ·exact .inl ⟨kk',h1.moves hm8 (by have:=HXX.out;omega),h2,cs,vs,h3.moves hm8 (Nat.le_refl _) (Nat.lt_succ_self _),h4⟩
       ·exact .inr ⟨kk',h1.moves hm8 (by have:=HXX.out;omega),h2⟩
      clear hx4 hm8 hst3 hmw3 hx3 hne3x hne3 hS3 hown9 hgrow9 hat9 hi79 hz79 hs79 hb79 hS2 hm2 hva2 HAL hnew hG HGV hown0 hx0 hva1 hva0 hS1 hm1 hone hm0 hS f0 f1 f2 f3 HCALL HVA HJ HX HR HM H8
      refine cV kr ?_
      go_wp2_with fail
      go_roundw
      case rel =>
       rcases HST9.out with ⟨kk',h1,h2,cs,vs,h3,h4⟩|⟨kk',h1,h2⟩
       ·exact⟨i+1,kk',false,va9,vc9,om,by go_num,H89.out,HX9.out,h1,HM9.out,.inl ⟨rfl,h2,cs,vs,h3,h4⟩⟩
       ·exact⟨i+1,kk',true,va9,vc9,om,by go_num,H89.out,HX9.out,h1,HM9.out,.inr ⟨rfl,h2⟩⟩
      case measure=>simp[intOf];omega
    ·obtain rfl:i=u:=om
     clear f2
     go_upto_region 24 with (fail)
     refine wp_region_list ?_
     refine fX (.agg #[.int .i64 3,.int .i64 0,.string ⟨#[]⟩,.slice va i vc]) (aH 88 (.tmp 8) rfl X8 0 rfl [.int .i64 3,.int .i64 0,.string ⟨#[]⟩,.slice va i vc] _ (ac.range H8.out) Tryz.underlying88 rfl (kw (.int .i64 3) (.int .i64 0) (.string ⟨#[]⟩) (.slice va i vc))) ?_
     simp only[Act.put,zp]
     refine wpList_store_row rfl 88 (.tmp 4) (.tmp 137) rfl X #[.int .i64 3,.int .i64 0,.string ⟨#[]⟩,.slice va i vc] ?q12a ?q12b 88 _ HX.out (aS (.int .i64 3) (.int .i64 0) (.string ⟨#[]⟩) (.slice va i vc)) rfl kr ?_
     case q12a=>rfl
     case q12b=>rfl
     go_wp2_with fail
     refine bodyPost_ret (results_cell_row rfl _ _ X 88 #[.int .i64 3,.int .i64 0,.string ⟨#[]⟩,.slice va i vc] (0,0) _ rfl (setRow_heap _ _ _ _ _ _ HX.out) Tryz.underlying88 rfl (aS (.int .i64 3) (.int .i64 0) (.string ⟨#[]⟩) (.slice va i vc))) rfl ?_
     have HRF:Hid (bW _ R l _ _):=HR.out.keep fun jq hjq=>setRow_other _ X jq #[.int .i64 3,.int .i64 0,.string ⟨#[]⟩,.slice va i vc] (by have:=HRX.out;omega)
     have HMF:Hid (az R w _):=bG (X:=X) HM.out (by have:=HXW.out;omega) #[.int .i64 3,.int .i64 0,.string ⟨#[]⟩,.slice va i vc]
     rcases HST.out with ⟨rfl,hk9,cells,vs,hva,hj⟩|⟨rfl,hj⟩
     ·rw[Nat.sub_self]at hj
      have hv9:aV (d'+1) (l.drop k)=some (.list vs,l.drop kk):=by rw[HVV.out,hj];simp[eI,bj]
      refine⟨⟨_,_,_,_,rfl,⟨rfl,rfl,rfl,rfl⟩,.inl ⟨_,_,hv9,by have:=HKK.out;omega,?_,HRF.out⟩⟩,HMF.out⟩
      have h9:=hva.vals (Nat.lt_succ_self X8)
      have h8:=h9.row (X:=X) (D:=#[.int .i64 3,.int .i64 0,.string ⟨#[]⟩,.slice va i vc]) (by have:=HXX.out;omega)
      exact h8.mono fun q hq _=>by have:=HXX.out;have:=HXW.out;omega
     ·exact⟨⟨_,_,_,_,rfl,⟨rfl,rfl,rfl,rfl⟩,.inr ⟨by rw[HVV.out,hj],_,HRF.out⟩⟩,HMF.out⟩
theorem rB : ∀d:Nat,pu d
 | 0=>mS 0 (fun _ h=>by cases h)
 | d+1=>mS (d+1) (fun d' h=>by cases h;exact rB d)
end Go.Proofs.YtmflnpdmlfmcpaaGreatDoor.Dr
