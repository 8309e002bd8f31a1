/- Joined texts. -/
import Derived.Test.YtmflnpdmlfmcpaaGreatDoorJp13
import Derived.Defers
import Derived.Recover
set_option maxRecDepth 100000
set_option maxHeartbeats 16000000
namespace Go.Proofs.YtmflnpdmlfmcpaaGreatDoor.Dr
open Go.RowKit
theorem lN {w W:World}{base:Nat}{e:TypeId}{size n:Nat}{v:Value}{xs:List Value}(h:w.ownsRow base e size v n xs)(hB:Below w.heap.size w W):W.ownsRow base e size v n xs:=
 cZ h fun g hg=>hB.block g (h.lt g hg).2
theorem fG (d:Nat):aV d []=none:=by cases d<;>rfl
theorem fH (d:Nat){c:UInt8}(r:List UInt8)(hc:c.toNat=1):aV d (c::r)=match bv 0 r with
   | none=>none
   | some (u,s)=>some (.int (dT u),s):=by cases d<;>simp[aV,hc]<;>rfl
theorem eU (d:Nat){c:UInt8}(r:List UInt8)(hc:c.toNat=2):aV d (c::r)=match cx r with
   | none=>none
   | some (n,s)=>some (.text (s.take n),s.drop n):=by cases d<;>simp[aV,hc]<;>rfl
theorem eV (d:Nat){c:UInt8}(r:List UInt8)(hc:c.toNat=3):aV (d+1) (c::r)=match cx r with
   | none=>none
   | some (n,s)=>match bj (aV d) n s with
    | none=>none
    | some (vs,t)=>some (.list vs,t):=by simp[aV,hc];rfl
theorem fU {c:UInt8}(r:List UInt8)(hc:c.toNat=3):aV 0 (c::r)=none:=by simp[aV,hc]
theorem eD (d:Nat){c:UInt8}(r:List UInt8)(h1:¬c.toNat=1)(h2:¬c.toNat=2)(h3:¬c.toNat=3):aV d (c::r)=none:=by cases d<;>simp[aV,h1,h2,h3]
theorem pU {f:List UInt8->Option (aT × List UInt8)}(hf:∀l v s,f l=some (v,s)->s.length<=l.length):∀(n:Nat) (l:List UInt8) (vs:List aT) (t:List UInt8),bj f n l=some (vs,t)->t.length<=l.length
 | 0,l,vs,t,h=>by simp only[bj,Option.some.injEq,Prod.mk.injEq]at h;rw[h.2];exact Nat.le_refl _
 | n+1,l,vs,t,h=>by
  simp only[bj]at h
  cases h1:f l with
  | none=>rw[h1]at h;cases h
  | some p =>
   obtain⟨v,s⟩:=p
   rw[h1]at h
   cases h2:bj f n s with
   | none=>simp only[h2]at h;cases h
   | some q =>
    obtain⟨us,t'⟩:=q
    simp only[h2,Option.some.injEq,Prod.mk.injEq]at h
    have:=pU hf n s us t' h2
    have:=hf l v s h1
    rw[<-h.2]
    omega
theorem rp : ∀(d:Nat) (l:List UInt8) (v:aT) (s:List UInt8),aV d l=some (v,s)->s.length<=l.length:=by
 intro d
 induction d with
 | zero =>
  intro l v s h
  cases l with
  | nil=>rw[fG]at h;cases h
  | cons c r =>
   by_cases h1:c.toNat=1
   ·rw[fH 0 r h1]at h
    cases hn:bv 0 r with
    | none=>rw[hn]at h;cases h
    | some p=>obtain⟨u,t⟩:=p;rw[hn]at h;cases h;have:=(gX hn).2;simp;omega
   by_cases h2:c.toNat=2
   ·rw[eU 0 r h2]at h
    cases hn:cx r with
    | none=>rw[hn]at h;cases h
    | some p=>obtain⟨u,t⟩:=p;rw[hn]at h;cases h;have:=(fD hn).2;simp;omega
   by_cases h3:c.toNat=3
   ·rw[fU r h3]at h;cases h
   ·rw[eD 0 r h1 h2 h3]at h;cases h
 | succ d ih =>
  intro l v s h
  cases l with
  | nil=>rw[fG]at h;cases h
  | cons c r =>
   by_cases h1:c.toNat=1
   ·rw[fH _ r h1]at h
    cases hn:bv 0 r with
    | none=>rw[hn]at h;cases h
    | some p=>obtain⟨u,t⟩:=p;rw[hn]at h;cases h;have:=(gX hn).2;simp;omega
   by_cases h2:c.toNat=2
   ·rw[eU _ r h2]at h
    cases hn:cx r with
    | none=>rw[hn]at h;cases h
    | some p=>obtain⟨u,t⟩:=p;rw[hn]at h;cases h;have:=(fD hn).2;simp;omega
   by_cases h3:c.toNat=3
   ·rw[eV d r h3]at h
    cases hn:cx r with
    | none=>rw[hn]at h;cases h
    | some p =>
     obtain⟨u,t⟩:=p
     rw[hn]at h
     simp only at h
     cases hq:bj (aV d) u t with
     | none=>rw[hq]at h;cases h
     | some q =>
      obtain⟨vs,t'⟩:=q
      rw[hq]at h
      cases h
      have h5:=pU ih u t vs _ hq
      have h6:=(fD hn).2
      simp
      omega
   ·rw[eD _ r h1 h2 h3]at h;cases h
def eI (vs:List aT):Option (List aT × List UInt8)->Option (List aT × List UInt8)
 | none=>none
 | some (us,t)=>some (vs++us,t)
theorem oy {f:List UInt8->Option (aT × List UInt8)}{vs:List aT}{n:Nat}{l s:List UInt8}{v:aT}(h:f l=some (v,s)):eI vs (bj f (n+1) l)=eI (vs++[v]) (bj f n s):=by
 simp only[bj,h]
 cases bj f n s with
 | none=>rfl
 | some q=>obtain⟨us,t⟩:=q;simp[eI]
theorem oA {f:List UInt8->Option (aT × List UInt8)}{vs:List aT}{n:Nat}{l:List UInt8}(h:f l=none):eI vs (bj f (n+1) l)=none:=by simp only[bj,h];rfl
theorem yS {o:Oper}{a:Act}{W:World}(x:Operand)(ho:o.op=.convert 5 3 x)(c:UInt8)(hx:a.eval x=.int .u8 c.toNat):(execOp a.eval o).run Tryz.prog W=.ok (.value (.int .i64 (c.toNat:Int))) W:=by
 have h3:IntKind.i64.wrap (c.toNat:Int)=(c.toNat:Int):=by have:=c.toNat_lt;rw[IntKind.wrap_i64];omega
 have h:(convert 5 3 (.int .u8 (c.toNat:Int))).run Tryz.prog W=.ok (.int .i64 (c.toNat:Int)) W:=by
  refine Eq.trans ?_ (show Result.ok (.int .i64 (IntKind.i64.wrap (c.toNat:Int))) W=_ by rw[h3])
  kernel_rfl
 unfold execOp
 simp only[ho,hx,Sem.run_bind,Sem.run_pure,Result.andThen_ok,h]
theorem iV {o:Oper}{a:Act}{W:World}(x:Operand)(ho:o.op=.convert 40 9 x){ad:Option Addr}{n c:Nat}{bs:List UInt8}(hx:a.eval x=.slice ad n c)(h:Sl 1 ai W ad n bs):(execOp a.eval o).run Tryz.prog W=.ok (.value (.string (aw bs))) W:=by
 unfold execOp
 simp only[ho,hx,Sem.run_bind,Sem.run_pure,Result.andThen_ok,dB h]
theorem tz {o:Oper}{act:Act}{W:World}(p q:Operand)(ho:o.op=.binOp .add 3 p q 3)(k:Nat)(hk:k<=1000)(hp:act.eval p=.int .i64 (k:Int))(hq:act.eval q=.int .i64 1):(execOp act.eval o).run Tryz.prog W=.ok (.value (.int .i64 ((k+1:Nat):Int))) W:=by
 have h3:IntKind.i64.wrap ((k:Int)+1)=((k+1:Nat):Int):=by rw[IntKind.wrap_i64];omega
 have h':(binOp .add 3 (.int .i64 (k:Int)) (.int .i64 1)).run Tryz.prog W=.ok (.int .i64 ((k+1:Nat):Int)) W:=by
  refine Eq.trans ?_ (show Result.ok (.int .i64 (IntKind.i64.wrap ((k:Int)+1))) W=_ by rw[h3])
  kernel_rfl
 unfold execOp
 simp only[ho,hp,hq]
 rw[show (eqGuard .add 3 p q (.int .i64 (k:Int)) (.int .i64 1))=pure () from rfl]
 simp only[Sem.run_bind,Sem.run_pure,Result.andThen_ok,h']
theorem fj {o:Oper}{a:Act}{W:World}(x:Operand)(ho:o.op=.load 86 x)(p:Addr){v:Value}(hx:a.eval x=.pointer (some p))(hc:W.cell? p=some v):(execOp a.eval o).run Tryz.prog W=.ok (.value v) W:=by
 unfold execOp
 simp only[ho,hx]
 go_simp
theorem pV {o:Oper}{act:Act}{W:World}(p0:Operand)(ho:o.op=.buildSlice 86 1 #[(0,p0)])(x0 x1 x2 x3:Value)(h0:act.eval p0=.agg #[x0,x1,x2,x3]) :
  (execOp act.eval o).run Tryz.prog W=.ok (.value (.slice (some ⟨W.heap.size,0,none⟩) 1 1)) (W.alloc (.cells #[x0,x1,x2,x3] 88)):=by
 have h:(Instr.buildSlice 86 1 #[(0,.agg #[x0,x1,x2,x3])]).run Tryz.prog W=.ok (.slice (some ⟨W.heap.size,0,none⟩) 1 1) (W.alloc (.cells #[x0,x1,x2,x3] 88)):=kr
 unfold execOp
 simp only[ho,List.map_toArray,List.map_cons,List.map_nil,h0,Sem.run_bind,Sem.run_pure,Result.andThen_ok,h]
theorem kw (a b c d:Value):(Tryz.prog.info? 88).map (·.size)=some [a,b,c,d].length:=kr
theorem aS (a b c d:Value):(Tryz.prog.info? 88).map (·.size)=some #[a,b,c,d].size:=kr
theorem AI : (Tryz.prog.info? 88).map (fun i=>(i.zero,i.size,decide (i.bytes<=100)))=some (some (.agg #[.int .i64 0,.int .i64 0,.string ⟨#[]⟩,.slice none 0 0]),4,true):=kr
theorem tA : ∃i:TypeInfo,Tryz.prog.info? 88=some i/\i.zero=some (.agg #[.int .i64 0,.int .i64 0,.string ⟨#[]⟩,.slice none 0 0])/\i.size=4/\i.bytes<=100:=by
 have h:=AI
 cases hq:Tryz.prog.info? 88 with
 | none=>rw[hq]at h;cases h
 | some i=>rw[hq]at h;simp only[Option.map_some,Option.some.injEq,Prod.mk.injEq,decide_eq_true_eq]at h;exact⟨i,rfl,h.1,h.2.1,h.2.2⟩
theorem dF {P:Program}{o:Oper}{a:Act}{w:World}{K:Act->World->Prop}{Q:Exit->Act->World->Prop}(f:FuncId)(args:Array Value)(hr:(execOp a.eval o).run P w=.ok (.enter f args) w)
  (hc:Calls P f args w fun e w'=>(∃v,e=.returned v/\K (a.put o.dst v) w')\/(∃c,e=.panicked c/\Q (.panic c) a w')):o.wp P a w K Q:=by
 unfold Oper.wp
 rw[hr]
 exact hc.mono fun e w' h=>by
  rcases h with ⟨v,he,hk⟩|⟨c,he,hk⟩
  ·subst he;exact hk
  ·subst he;exact hk
theorem uy {A:Nat->Prop}{d:Nat}{W:World}{x0 x1 x2 x3:Value}{v:aT}(h:cu A d W [x0,x1,x2,x3] v):x0.oneCell'=true/\x1.oneCell'=true/\x2.oneCell'=true/\x3.oneCell'=true:=by
 obtain⟨vm,vs,ea,en,ec,rfl,rfl,rfl,rfl⟩:=h.vr.four
 exact⟨rfl,rfl,rfl,rfl⟩
theorem oB {x0 x1 x2 x3:Value}(h:x0.oneCell'=true/\x1.oneCell'=true/\x2.oneCell'=true/\x3.oneCell'=true):#[x0,x1,x2,x3].all (·.oneCell')=true:=by simp[h]
theorem ce.setX {R X i:Nat}{W:World}{l:List UInt8}(h:ce W R l)(hX:R<X)(v:Value):ce (W.setCell ⟨X,i,none⟩ v) R l:=h.moves ((az.refl X W).setCell rfl v) hX
theorem bG {R X:Nat}{A B:World}(h:az R A B)(hX:A.heap.size<=X)(D:Array Value):az R A (B.setRow X D):=
 have hb:=below_setRow (B:=X) (Below.refl X B) (Nat.le_refl _) D
 ⟨hb.os.trans h.os,hb.tape.trans h.tape,hb.output.trans h.output,Nat.le_trans h.size hb.size,fun k hk hne=>(hb.block k om).trans (h.block k hk hne)⟩
theorem cu.row {A:Nat->Prop}{d X:Nat}{W:World}{D:Array Value}{vs:List Value}{v:aT}(h:cu A d W vs v)(hA:¬A X):cu A d (W.setRow X D) vs v:=
 h.keep fun k hk hlt=>⟨hk,setRow_other W X k D (fun e=>hA (by rw[<-e];exact hk))⟩
def rq (d:Nat):Prop:=∀(R:Nat) (l:List UInt8) (w:World),d<=16->l.length<=1000000->ce w R l ->
  Calls Tryz.prog 127 #[.pointer (some ⟨R,0,none⟩),.int .i64 ((16-d:Nat):Int)] w fun e w'=>az R w w'/\((∃v s x0 x1 x2 x3,aV d l=some (v,s)/\e=.returned (.agg #[x0,x1,x2,x3])/\cu (fun k=>w.heap.size<k) d w' [x0,x1,x2,x3] v/\ce w' R s)\/(aV d l=none/\e=.panicked [jA]))
structure dx (N B d:Nat)(W:World)(va:Option Addr)(k vc:Nat)(cells:List Value)(vs:List aT):Prop where
 own:W.ownsRow B 88 4 (.slice va k vc) k cells
 len:vs.length=k
 flat:dW 4 (cu (fun q=>N<q/\some q≠(Value.slice va k vc).ownBlock) d) W cells vs
theorem lO {α:Type}{m:Nat}{R R':World->List Value->α->Prop}{W W':World}{cells:List Value}{xs:List α}(h:dW m R W cells xs)(hR:∀L x,R W L x->R' W' L x):dW m R' W' cells xs:=
 ⟨h.1,fun i x hx=>by obtain⟨M,h1,h2,h3⟩:=h.2 i x hx;exact⟨M,h1,hR M x h2,h3⟩⟩
theorem dx.nil (N B d:Nat)(W:World):dx N B d W none 0 0 [] []:=⟨World.ownsRow_nil _ _ _ _,rfl,by simp[dW]⟩
theorem dx.moves {R N B d:Nat}{W W':World}{va:Option Addr}{k vc:Nat}{cells:List Value}{vs:List aT}(h:dx N B d W va k vc cells vs)(hm:az R W W')(hN:R<=N)(hB:R<B):dx N B d W' va k vc cells vs:=
 ⟨hm.own h.own hB,h.len,lO h.flat fun _ _ hx=>hx.keep fun q hq hlt=>⟨hq,hm.block q hlt om⟩⟩
theorem dx.snoc {N B d:Nat}{W W':World}{va va':Option Addr}{k vc vc':Nat}{cells L:List Value}{vs:List aT}{v:aT}(h:dx N B d W va k vc cells vs)(hl:L.length=4)(hv:cu (fun q=>N<q/\some q≠(Value.slice va k vc).ownBlock) d W L v)
  (ho:W'.ownsRow B 88 4 (.slice va' (k+1) vc') (k+1) (cells++L)) (hg:W.grownBy W' (Value.slice va k vc).ownBlock) (hat:(Value.slice va' (k+1) vc').ownBlock=(Value.slice va k vc).ownBlock\/(Value.slice va' (k+1) vc').ownBlock=some W.heap.size):dx N B d W' va' (k+1) vc' (cells++L) (vs++[v]):=by
 have hk:∀q,(N<q/\some q≠(Value.slice va k vc).ownBlock)->q<W.heap.size->(N<q/\some q≠(Value.slice va' (k+1) vc').ownBlock)/\W'.heap[q]? = W.heap[q]? := fun q hq hlt=>by
  refine⟨⟨hq.1,?_⟩,hg.block q hlt hq.2⟩
  rcases hat with e|e
  ·rw[e];exact hq.2
  ·rw[e];intro e1;cases e1;omega
 exact⟨ho,by simp[h.len],(lO h.flat fun _ _ hx=>hx.keep hk).snoc hl (hv.keep hk)⟩
theorem dx.vals {N B d:Nat}{W:World}{va:Option Addr}{k vc:Nat}{cells:List Value}{vs:List aT}(h:dx N B d W va k vc cells vs)(hN:N<B):cu (fun q=>N<q) (d+1) W [.int .i64 3,.int .i64 0,.string ⟨#[]⟩,.slice va k vc] (.list vs):=by
 obtain⟨h1,h2⟩:=eB (by decide) h.own vs h.len (lO h.flat fun _ _ hx=>hx.mono fun q hq _=>hq.1)
 exact⟨va,k,vc,rfl,h1,fun ad had=>.inr (by have:=bU h.own ad.block (by rw[had];rfl);omega),h2⟩
theorem oC (d:Nat)(IH:∀d',d=d'+1->rq d'):rq d:=by
 intro R l w hd hl h
 obtain⟨dp,hdp⟩:=zg (16-d)
 rw[<-hdp]
 have HDP:Hid (dp+d=16):=by show _=_;omega
 have HL:=aa hl
 have H:=aa h
 have HIH:=aa IH
 have hRlt:=h.lt
 clear hdp hd hl h IH
 go_enter Tryz.func127,Tryz.ntmps127
 go_upto_region 1 with (fail)
 obtain⟨X,hX⟩:=zg w.heap.size
 obtain⟨w1,hw1⟩:=zg (w.alloc (.cells #[.int .i64 0,.int .i64 0,.string ⟨#[]⟩,.slice none 0 0] 88))
 rw[<-hw1,<-hX]
 have hB1:Below w.heap.size w w1:=by rw[hw1];exact(Below.refl _ w).alloc (Nat.le_refl _) _
 have hx1:ac w1 X 88 [.int .i64 0,.int .i64 0,.string ⟨#[]⟩,.slice none 0 0]:=by rw[hw1,hX];exact ak _ rfl
 have HRX:Hid (R<X):=by show _<_;omega
 have HXW:Hid (X=w.heap.size):=hX
 have HM1:Hid (az R w w1):=.of_below hB1
 have HT:=aa (pj R 1 l w1 om (H.out.below hB1))
 have HX1:=aa hx1
 clear hw1 hX hx1 hB1 hRlt
 go_wp2_with fail
 refine HT.out.mono ?_
 rintro e w2 ⟨hm2,(⟨hl1,⟨a,rfl,hs⟩,hr2⟩|⟨hl1,rfl⟩)⟩
 rotate_left
 ·have hn:l=[]:=by
   cases l with
   | nil=>rfl
   | cons c r=>simp at hl1
  subst hn
  clear HT hl1
  go_wp2_with fail
  exact⟨rfl,HM1.out.trans hm2,.inr ⟨fG d,rfl⟩⟩
 obtain⟨c,r,rfl⟩:∃c r,l=c::r:=by
  cases l with
  | nil=>simp at hl1
  | cons c r=>exact⟨c,r,rfl⟩
 obtain⟨b,off,rfl,hcell⟩:=pO (c:=c) (by simpa using hs)
 have HR2:Hid (ce w2 R r):=by simpa[Hid] using hr2
 have HM2:Hid (az R w w2):=HM1.out.trans hm2
 have hne:X≠R:=by have:=HRX.out;omega
 have hx2:=hm2.row hne HX1.out
 have HX2:=aa hx2
 obtain⟨_,f0,f1,f2,f3,z0,_⟩:=aF (Below.refl _ w2) hx2
 clear hl1 hs hr2 hm2 HT HM1 HX1 hx2 hne
 go_upto_region 2 with (refine aG (.int .i64 (c.toNat:Int)) rfl (yS (.tmp 8) rfl c rfl) ?_;simp only[Act.put,zp])
 have hx3:ac (w2.setCell ⟨X,0,none⟩ (.int .i64 (c.toNat:Int))) X 88 [.int .i64 (c.toNat:Int),.int .i64 0,.string ⟨#[]⟩,.slice none 0 0]:=by
  have:=ax HX2.out 0 (.int .i64 (c.toNat:Int))
  simpa[ac] using this
 have hr3:ce (w2.setCell ⟨X,0,none⟩ (.int .i64 (c.toNat:Int))) R r:=HR2.out.setX HRX.out _
 have hm3:az R w (w2.setCell ⟨X,0,none⟩ (.int .i64 (c.toNat:Int))):=HM2.out.setNew (by show _<=X;have:=HXW.out;omega) _
 generalize w2.setCell ⟨X,0,none⟩ (.int .i64 (c.toNat:Int))=w3 at *
 have HX3:=aa hx3
 have HR3:=aa hr3
 have HM3:=aa hm3
 clear f0 f1 f2 f3 z0 hcell HR2 HM2 HX2 hr3 hm3
 have f0:w3.cell? ⟨X,0,none⟩=some (.int .i64 (c.toNat:Int)):=by have:=ac.cell hx3 0;simpa using this
 clear hx3
 have HRL:Hid (r.length<=1000000):=by have:=HL.out;simp at this;show _<=_;omega
 clear HL
 by_cases c1:c.toNat=1
 ·have g1:((c.toNat:Int) == 1)=true:=by simp;omega
  have HV:=aa (fH d r c1)
  have HC1:=aa c1
  have HN:=aa (pP R r w3 HR3.out)
  clear c1
  go_upto_region 5 with (fail)
  clear g1 f0
  go_wp2_with fail
  refine HN.out.mono ?_
  rintro e w4 ⟨hm4,(⟨u,s,hn,rfl,hr4⟩|⟨hn,rfl⟩)⟩
  rotate_left
  ·clear HN
   go_wp2_with fail
   exact⟨rfl,HM3.out.trans hm4,.inr ⟨by rw[HV.out,hn],rfl⟩⟩
  have hu:=(gX hn).1
  have HS:=aa (wB u w4 hu)
  have HU:=aa hu
  have hx4:=hm4.row (X:=X) (by have:=HRX.out;omega) HX3.out
  have HX4:=aa hx4
  have HM4:Hid (az R w w4):=HM3.out.trans hm4
  have HR4:=aa hr4
  have HVV:Hid (aV d (c::r)=some (.int (dT u),s)):=by rw[Hid,HV.out,hn]
  clear HN hm4 hr4 hn hx4 hu HV HX3 HM3 HR3
  go_wp2_with fail
  refine HS.out.mono ?_
  rintro e w5 ⟨rfl,rfl⟩
  obtain⟨_,f0,f1,f2,f3,z0,_⟩:=aF (Below.refl _ w4) HX4.out
  clear HS
  have hx5:ac (w4.setCell ⟨X,1,none⟩ (.int .i64 (dT u))) X 88 [.int .i64 1,.int .i64 (dT u),.string ⟨#[]⟩,.slice none 0 0]:=by
   have:=ax HX4.out 1 (.int .i64 (dT u))
   rw[HC1.out]at this
   simpa[ac] using this
  have hr5:ce (w4.setCell ⟨X,1,none⟩ (.int .i64 (dT u))) R s:=HR4.out.setX HRX.out _
  have hm5:az R w (w4.setCell ⟨X,1,none⟩ (.int .i64 (dT u))):=HM4.out.setNew (by show _<=X;have:=HXW.out;omega) _
  have HX5:=aa hx5
  have HR5:=aa hr5
  have HM5:=aa hm5
  clear hx5 hr5 hm5 HR4 HM4
  go_upto_region 14 with (fail)
  refine wp_region_lit ?_
  refine aG (.agg #[.int .i64 1,.int .i64 (dT u),.string ⟨#[]⟩,.slice none 0 0]) rfl (aH 88 (.tmp 4) rfl X 0 rfl [.int .i64 1,.int .i64 (dT u),.string ⟨#[]⟩,.slice none 0 0] _ (ac.range HX5.out) Tryz.underlying88 rfl (kw (.int .i64 1) (.int .i64 (dT u)) (.string ⟨#[]⟩) (.slice none 0 0))) ?_
  simp only[Act.put,zp]
  refine wpList_store_row rfl 88 (.tmp 4) (.tmp 49) rfl X #[.int .i64 1,.int .i64 (dT u),.string ⟨#[]⟩,.slice none 0 0] ?q1a ?q1b 88 _ HX5.out (aS (.int .i64 1) (.int .i64 (dT u)) (.string ⟨#[]⟩) (.slice none 0 0)) rfl kr ?_
  case q1a=>rfl
  case q1b=>rfl
  go_wp2_with fail
  refine bodyPost_ret (results_cell_row rfl _ _ X 88 #[.int .i64 1,.int .i64 (dT u),.string ⟨#[]⟩,.slice none 0 0] (0,0) _ rfl (setRow_heap _ _ _ _ _ _ HX5.out) Tryz.underlying88 rfl (aS (.int .i64 1) (.int .i64 (dT u)) (.string ⟨#[]⟩) (.slice none 0 0))) rfl ?_
  refine⟨bG HM5.out (by have:=HXW.out;omega) _,.inl ⟨_,s,_,_,_,_,HVV.out,rfl,?_,HR5.out.keep fun k hk=>setRow_other _ _ _ _ (by have:=HRX.out;omega)⟩⟩
  cases d<;>exact⟨mp HU.out,rfl⟩
 ·have g1:((c.toNat:Int) == 1)=false:=by simp;omega
  by_cases c2:c.toNat=2
  ·have g2:((c.toNat:Int) == 2)=true:=by simp;omega
   have HV:=aa (eU d r c2)
   have HC2:=aa c2
   have HN:=aa (pQ R r w3 (by have:=HRL.out;omega) HR3.out)
   clear c1 c2
   go_upto_region 7 with (fail)
   clear g1 g2 f0
   go_wp2_with fail
   refine HN.out.mono ?_
   rintro e w4 ⟨hm4,(⟨u,s,hn,rfl,hr4⟩|⟨hn,rfl⟩)⟩
   rotate_left
   ·clear HN
    go_wp2_with fail
    exact⟨rfl,HM3.out.trans hm4,.inr ⟨by rw[HV.out,hn],rfl⟩⟩
   have hu:=fD hn
   have HS:=aa (pj R u s w4 (by have:=HRL.out;omega) hr4)
   have HU:=aa hu.1
   have hx4:=hm4.row (X:=X) (by have:=HRX.out;omega) HX3.out
   have HX4:=aa hx4
   have HM4:Hid (az R w w4):=HM3.out.trans hm4
   have HVV:Hid (aV d (c::r)=some (.text (s.take u),s.drop u)):=by rw[Hid,HV.out,hn]
   clear HN hm4 hr4 hn hx4 hu HV HX3 HM3 HR3
   go_wp2_with fail
   refine HS.out.mono ?_
   rintro e w5 ⟨hm5,(⟨_,⟨ta,rfl,hts⟩,hr5⟩|⟨hl5,_⟩)⟩
   rotate_left
   ·exact absurd HU.out om
   have hx5:=hm5.row (X:=X) (by have:=HRX.out;omega) HX4.out
   have HTS:=aa hts
   have HM5:Hid (az R w w5):=HM4.out.trans hm5
   have HX5:=aa hx5
   have HR5:=aa hr5
   obtain⟨_,f0,f1,f2,f3,z0,_⟩:=aF (Below.refl _ w5) hx5
   clear HS hm5 hx5 hts hr5 HX4 HM4
   have hx6:ac (w5.setCell ⟨X,2,none⟩ (.string (aw (s.take u)))) X 88 [.int .i64 2,.int .i64 0,.string (aw (s.take u)),.slice none 0 0]:=by
    have:=ax HX5.out 2 (.string (aw (s.take u)))
    rw[HC2.out]at this
    simpa[ac] using this
   have hr6:ce (w5.setCell ⟨X,2,none⟩ (.string (aw (s.take u)))) R (s.drop u):=HR5.out.setX HRX.out _
   have hm6:az R w (w5.setCell ⟨X,2,none⟩ (.string (aw (s.take u)))):=HM5.out.setNew (by show _<=X;have:=HXW.out;omega) _
   have HX6:=aa hx6
   have HR6:=aa hr6
   have HM6:=aa hm6
   clear hx6 hr6 hm6 HR5 HM5
   go_upto_region 14 with (refine aG (.string (aw (s.take u))) rfl (iV (.tmp 26) rfl rfl HTS.out) ?_;simp only[Act.put,zp])
   refine wp_region_lit ?_
   refine aG (.agg #[.int .i64 2,.int .i64 0,.string (aw (s.take u)),.slice none 0 0]) rfl (aH 88 (.tmp 4) rfl X 0 rfl [.int .i64 2,.int .i64 0,.string (aw (s.take u)),.slice none 0 0] _ (ac.range HX6.out) Tryz.underlying88 rfl (kw (.int .i64 2) (.int .i64 0) (.string (aw (s.take u))) (.slice none 0 0))) ?_
   simp only[Act.put,zp]
   refine wpList_store_row rfl 88 (.tmp 4) (.tmp 49) rfl X #[.int .i64 2,.int .i64 0,.string (aw (s.take u)),.slice none 0 0] ?q2a ?q2b 88 _ HX6.out (aS (.int .i64 2) (.int .i64 0) (.string (aw (s.take u))) (.slice none 0 0)) rfl kr ?_
   case q2a=>rfl
   case q2b=>rfl
   go_wp2_with fail
   refine bodyPost_ret (results_cell_row rfl _ _ X 88 #[.int .i64 2,.int .i64 0,.string (aw (s.take u)),.slice none 0 0] (0,0) _ rfl (setRow_heap _ _ _ _ _ _ HX6.out) Tryz.underlying88 rfl (aS (.int .i64 2) (.int .i64 0) (.string (aw (s.take u))) (.slice none 0 0))) rfl ?_
   refine⟨bG HM6.out (by have:=HXW.out;omega) _,.inl ⟨_,_,_,_,_,_,HVV.out,rfl,?_,HR6.out.keep fun k hk=>setRow_other _ _ _ _ (by have:=HRX.out;omega)⟩⟩
   cases d<;>exact rfl
  ·have g2:((c.toNat:Int) == 2)=false:=by simp;omega
   by_cases c3:c.toNat=3
   ·have g3:((c.toNat:Int) == 3)=true:=by simp;omega
    have HC3:=aa c3
    clear c1 c2 c3
    go_upto_region 9 with (fail)
    clear g1 g2 g3 f0
    cases d with
    | zero =>
     have hd16:dp=16:=by have:=HDP.out;omega
     subst hd16
     have HW:=aa (fS R false w3)
     go_wp2_with fail
     refine HW.out.mono ?_
     rintro e w4 ⟨rfl,(⟨hb,_⟩|⟨_,rfl⟩)⟩
     ·cases hb
     clear HW
     go_wp2_with fail
     exact⟨rfl,HM3.out,.inr ⟨fU r HC3.out,rfl⟩⟩
    | succ d =>
     have hd16:(dp:Int)<16:=by have:=HDP.out;omega
     have HV:=aa (eV d r HC3.out)
     have HW:=aa (fS R true w3)
     have HN:=aa (pQ R r w3 (by have:=HRL.out;omega) HR3.out)
     have HREC:=aa (HIH.out d rfl)
     have hde:((16-d:Nat):Int)=((dp+1:Nat):Int):=by have:=HDP.out;omega
     have HDE:=aa hde
     clear HIH hde
     go_wp2_with fail
     refine HW.out.mono ?_
     rintro e w4 ⟨rfl,(⟨_,rfl⟩|⟨hb,_⟩)⟩
     rotate_left
     ·cases hb
     clear HW hd16
     go_wp2_with fail
     refine HN.out.mono ?_
     rintro e w5 ⟨hm5,(⟨n,s,hn,rfl,hr5⟩|⟨hn,rfl⟩)⟩
     rotate_left
     ·clear HN
      go_wp2_with fail
      exact⟨rfl,HM3.out.trans hm5,.inr ⟨by rw[HV.out,hn],rfl⟩⟩
     have hu:=fD hn
     have HVV:Hid (aV (d+1) (c::r)=match bj (aV d) n s with
      | none=>none
      | some (vs,t)=>some (.list vs,t)):=by rw[Hid,HV.out,hn]
     have hx5:ac w5 X 88 [.int .i64 3,.int .i64 0,.string ⟨#[]⟩,.slice none 0 0]:=by
      have:=hm5.row (X:=X) (by have:=HRX.out;omega) HX3.out
      rw[HC3.out]at this
      exact this
     have HM5:Hid (az R w w5):=HM3.out.trans hm5
     have HNS:Hid (n<=s.length/\s.length<=1000000):=by have:=HRL.out;exact⟨hu.1,om⟩
     have HX5:=aa hx5
     have HR5:=aa hr5
     have hn6:n<=1000000:=by have:=HNS.out;omega
     clear HN hm5 hn hu hx5 hr5 HV HX3 HM3 HR3
     go_wp2_with fail
     go_loopw [37] (fun s37 wr=>∃(k:Nat) (li:List UInt8) (va:Option Addr) (vc:Nat) (cells:List Value) (vs:List aT),k<=n/\s37=.int .i64 k/\li.length<=1000000/\ac wr X 88 [.int .i64 3,.int .i64 0,.string ⟨#[]⟩,.slice va k vc]/\dx X (X+1) d wr va k vc cells vs/\bj (aV d) n s=eI vs (bj (aV d) (n-k) li)/\ce wr R li/\az R w wr) (fun s37 _=>n-(intOf s37).toNat)
     case atStart=>exact⟨0,s,none,0,[],[],Nat.zero_le _,rfl,HNS.out.2,HX5.out,dx.nil _ _ _ _,by cases h9:bj (aV d) n s with|none=>simp[eI]|some q=>obtain⟨us,t⟩:=q;simp[eI],HR5.out,HM5.out⟩
     case round =>
      clear HX5 HR5 HM5
      obtain⟨k,li,va,vc,cells,vs,hk,rfl,hli,hx,hva,hj,hr,hm⟩:=hrel
      have HX:=aa hx
      have HVA:=aa hva
      have HJ:=aa hj
      have HR:=aa hr
      have HM:=aa hm
      have HLI:=aa hli
      clear hx hva hj hr hm hli
      by_cases hlt:k<n
      ·have k1:(k:Int)<(n:Int):=om
       have HKN:Hid (k<n/\n<=1000000):=⟨hlt,hn6⟩
       have HCALL:=HREC.out R li wr.drew (by have:=HDP.out;omega) HLI.out (HR.out.below ((Below.refl _ wr).drew))
       rw[HDE.out]at HCALL
       have HCALL:=aa HCALL
       go_upto_region 12 with (fail)
       try simp only[Act.put,zp]
       have hS:ac (World.drew wr) X 88 [.int .i64 3,.int .i64 0,.string ⟨#[]⟩,.slice va k vc]:=HX.out
       refine bZ (fun W=>ac W X 88 [.int .i64 3,.int .i64 0,.string ⟨#[]⟩,.slice va k vc]) 9 kr ?_
       change bT _ _ _ _ _ _ _ #[false,false,false,false,false,false,false,false,false,false] _ (World.drew wr)
       have hm0:az R wr (World.drew wr):=(az.refl R wr).drew
       generalize World.drew wr=x0 at *
       refine fp 0 (.pointer (some ⟨X,3,none⟩)) rfl hS ?_
       try simp only[Act.put,zP]
       refine eL 1 (.slice va k vc) rfl (fun W hW=>fj (.tmp 39) kr ⟨X,3,none⟩ kr ((ac.cell hW 3).trans rfl)) hS ?_
       try simp only[Act.put,zP]
       refine fp 2 (.pointer (some ⟨R,0,none⟩)) rfl hS ?_
       try simp only[Act.put,zP]
       refine fp 3 (.int .i64 (dp:Int)) rfl hS ?_
       try simp only[Act.put,zP]
       refine eL 4 (.int .i64 ((dp+1:Nat):Int)) rfl (fun W hW=>tz (.tmp 42) (.const (.int .i64 1)) kr dp (by have:=HDP.out;omega) kr kr) hS ?_
       try simp only[Act.put,zP]
       refine aC 5 kr rfl rfl ?_
       refine dF 127 #[.pointer (some ⟨R,0,none⟩),.int .i64 ((dp+1:Nat):Int)] kr ?_
       refine HCALL.out.mono ?_
       rintro e x1 ⟨hm1,(⟨v,s',y0,y1,y2,y3,hv,rfl,hvr,hr1⟩|⟨hv,rfl⟩)⟩
       rotate_left
       ·refine .inr ⟨_,rfl,?_⟩
        have HNO:Hid (bj (aV d) n s=none):=by
         rw[Hid,HJ.out,show n-k=(n-k-1)+1 by omega,oA hv]
        have HMZ:Hid (az R w x1):=HM.out.trans (hm0.trans hm1)
        exact⟨rfl,HMZ.out,.inr ⟨by rw[HVV.out,HNO.out],rfl⟩⟩
       have hS1:=hm1.row (X:=X) (by have:=HRX.out;omega) hS
       have hva1:=(HVA.out.moves hm0 (by have:=HRX.out;omega) (by have:=HRX.out;omega)).moves hm1 (by have:=HRX.out;omega) (by have:=HRX.out;omega)
       have hj1:bj (aV d) n s=eI (vs++[v]) (bj (aV d) (n-(k+1)) s'):=by
        rw[HJ.out,show n-k=(n-(k+1))+1 by omega,oy hv]
       have hs1:=rp d li v s' hv
       have hx0:X<x0.heap.size:=hS.lt
       have hown0:∀q,(Value.slice va k vc).ownBlock=some q->q<x0.heap.size:=fun q hq=>((HVA.out.moves hm0 (by have:=HRX.out;omega) (by have:=HRX.out;omega)).own.lt q hq).2
       have hvr1:cu (fun q=>X<q/\some q≠(Value.slice va k vc).ownBlock) d x1 [y0,y1,y2,y3] v:=hvr.mono fun q hq _=>⟨om,fun e1=>by have:=hown0 q e1.symm;omega⟩
       refine .inl ⟨_,rfl,.inr hS1,?_⟩
       try simp only[Act.put,zP]
       have hal:Below x1.heap.size x1 (x1.alloc (.cells #[y0,y1,y2,y3] 88)):=(Below.refl _ _).alloc (Nat.le_refl _) _
       have hnew:ac (x1.alloc (.cells #[y0,y1,y2,y3] 88)) x1.heap.size 88 [y0,y1,y2,y3]:=ak _ rfl
       refine aC 6 kr rfl rfl ?_
       refine aO _ (pV (.tmp 44) kr y0 y1 y2 y3 kr) ?_
       have hva2:=hva1.moves (az.of_below (R:=R) hal) (by have:=HRX.out;omega) (by have:=HRX.out;omega)
       have hvr2:cu (fun q=>X<q/\some q≠(Value.slice va k vc).ownBlock) d (x1.alloc (.cells #[y0,y1,y2,y3] 88)) [y0,y1,y2,y3] v:=hvr1.keep fun q hq hlt=>⟨hq,hal.block q hlt⟩
       have hr2:=hr1.below hal
       have hm2:=hm1.trans (az.of_below (R:=R) hal)
       have hS2:=hS1.below hal hS1.lt
       obtain⟨G,hG⟩:=zg x1.heap.size
       rw[<-hG]at hnew ⊢
       generalize x1.alloc (.cells #[y0,y1,y2,y3] 88)=x2 at *
       refine⟨.inr hS2,?_⟩
       try simp only[Act.put,zP]
       obtain⟨i79,hi79,hz79,hs79,hb79⟩:=tA
       refine aC 7 kr rfl rfl ?_
       refine gH (.tmp 40) (.tmp 45) 86 kr (X+1) 88 i79 (.agg #[.int .i64 0,.int .i64 0,.string ⟨#[]⟩,.slice none 0 0]) 4 i79.bytes Tryz.underlying86 hi79 hz79 hs79 rfl rfl (by decide) (.slice va k vc) k cells kr hva2.own ⟨G,0,none⟩ 1 1 [y0,y1,y2,y3] kr rfl (fun j u hu=>by rw[Addr.add_lit,Nat.zero_add];exact(ac.cell hnew j).trans hu) (by have h9:=uy hvr;intro u hu;simp only[List.mem_cons,List.not_mem_nil,or_false]at hu;rcases hu with rfl|rfl|rfl|rfl;exact h9.1;exact h9.2.1;exact h9.2.2.1;exact h9.2.2.2) (by have:=HKN.out;unfold maxLen;omega) (by have h9:=HKN.out;have h8:=Nat.mul_le_mul (show k+1<=1000001 by omega) hb79;omega) (by have:=hS2.lt;omega) ?_
       intro va9 vc9 x3 hown9 hgrow9 hat9
       have hne3:some X≠(Value.slice va k vc).ownBlock:=fun e1=>by have:=bU hva2.own X e1.symm;omega
       have hS3:ac x3 X 88 [.int .i64 3,.int .i64 0,.string ⟨#[]⟩,.slice va k vc]:=bx hS2 hgrow9 hne3
       have hva3:=hva2.snoc rfl hvr2 hown9 hgrow9 hat9
       have hr3:=hr2.grown hva2.own (by have:=HRX.out;omega) hgrow9
       have hmw3:az R w x3:=(HM.out.trans (hm0.trans hm2)).grown hgrow9 (fun q hq=>by have h9:=bU hva2.own q hq;have h8:=HXW.out;omega)
       refine⟨.inr hS3,?_⟩
       try simp only[Act.put,zP]
       refine aC 8 kr rfl rfl ?_
       refine aO (w':=x3) (.pointer (some ⟨X,3,none⟩)) ?y8 ?_
       case y8=>(go_simp;try rfl)
       refine⟨.inr hS3,?_⟩
       try simp only[Act.put,zP]
       refine aC 9 kr rfl rfl ?_
       unfold Oper.wp
       obtain⟨_,f0,f1,f2,f3,_,_⟩:=aF (Below.refl _ x3) hS3
       go_simp
       have HX9:Hid (ac (x3.setCell ⟨X,3,none⟩ (.slice va9 (k+1) vc9)) X 88 [.int .i64 3,.int .i64 0,.string ⟨#[]⟩,.slice va9 (k+1) vc9]):=by have h9:=ax hS3 3 (.slice va9 (k+1) vc9);simpa[Hid,ac] using h9
       have HM9:Hid (az R w (x3.setCell ⟨X,3,none⟩ (.slice va9 (k+1) vc9))):=hmw3.setNew (by show _<=X;have:=HXW.out;omega) _
       have HR9:Hid (ce (x3.setCell ⟨X,3,none⟩ (.slice va9 (k+1) vc9)) R s'):=hr3.setX HRX.out _
       have HVA9:Hid (dx X (X+1) d (x3.setCell ⟨X,3,none⟩ (.slice va9 (k+1) vc9)) va9 (k+1) vc9 (cells++[y0,y1,y2,y3]) (vs++[v])):=hva3.moves ((az.refl X x3).setCell rfl _) (Nat.le_refl _) (Nat.lt_succ_self _)
       have HJ9:=aa hj1
       have HS9:Hid (s'.length<=1000000):=by have:=HLI.out;show _<=_;omega
       clear hS hm0 hS1 hS2 hS3 hva1 hva2 hva3 hj1 hs1 hx0 hown0 hvr hvr1 hvr2 hal hnew hr1 hr2 hr3 hm1 hm2 hmw3 hown9 hgrow9 hat9 hne3 hG hi79 hz79 hs79 hb79 f0 f1 f2 f3 HX HVA HJ HR HM HCALL
       generalize x3.setCell ⟨X,3,none⟩ (.slice va9 (k+1) vc9)=x4 at *
       refine cV kr ?_
       go_wp2_with fail
       go_roundw
       case rel=>exact⟨k+1,s',va9,vc9,_,vs++[v],om,by go_num,HS9.out,HX9.out,HVA9.out,HJ9.out,HR9.out,HM9.out⟩
       case measure=>simp[intOf];omega
      ·obtain rfl:k=n:=om
       have hj:=HJ.out
       rw[Nat.sub_self]at hj
       have HVF:Hid (aV (d+1) (c::r)=some (.list vs,li)):=by rw[Hid,HVV.out,hj];simp[eI,bj]
       clear hj HJ HVV
       go_upto_region 14 with (fail)
       refine wp_region_lit ?_
       refine aG (.agg #[.int .i64 3,.int .i64 0,.string ⟨#[]⟩,.slice va k vc]) rfl (aH 88 (.tmp 4) rfl X 0 rfl [.int .i64 3,.int .i64 0,.string ⟨#[]⟩,.slice va k vc] _ (ac.range HX.out) Tryz.underlying88 rfl (kw (.int .i64 3) (.int .i64 0) (.string ⟨#[]⟩) (.slice va k vc))) ?_
       simp only[Act.put,zp]
       refine wpList_store_row rfl 88 (.tmp 4) (.tmp 49) rfl X #[.int .i64 3,.int .i64 0,.string ⟨#[]⟩,.slice va k vc] ?q3a ?q3b 88 _ HX.out (aS (.int .i64 3) (.int .i64 0) (.string ⟨#[]⟩) (.slice va k vc)) rfl kr ?_
       case q3a=>rfl
       case q3b=>rfl
       go_wp2_with fail
       refine bodyPost_ret (results_cell_row rfl _ _ X 88 #[.int .i64 3,.int .i64 0,.string ⟨#[]⟩,.slice va k vc] (0,0) _ rfl (setRow_heap _ _ _ _ _ _ HX.out) Tryz.underlying88 rfl (aS (.int .i64 3) (.int .i64 0) (.string ⟨#[]⟩) (.slice va k vc))) rfl ?_
       refine⟨bG HM.out (by have:=HXW.out;omega) _,.inl ⟨_,li,_,_,_,_,HVF.out,rfl,?_,HR.out.keep fun k hk=>setRow_other _ _ _ _ (by have:=HRX.out;omega)⟩⟩
       have h9:=HVA.out.vals (Nat.lt_succ_self X)
       have h8:=h9.row (X:=X) (D:=#[.int .i64 3,.int .i64 0,.string ⟨#[]⟩,.slice va k vc]) (Nat.lt_irrefl X)
       exact h8.mono fun q hq _=>by have:=HXW.out;omega
   ·have g3:((c.toNat:Int) == 3)=false:=by simp;omega
    have HVV:=aa (eD d r c1 c2 c3)
    have HW:=aa (fS R false w3)
    clear c1 c2 c3
    go_upto_region 3 with (fail)
    clear g1 g2 g3 f0
    go_wp2_with fail
    refine HW.out.mono ?_
    rintro e w4 ⟨rfl,(⟨hb,_⟩|⟨_,rfl⟩)⟩
    ·cases hb
    clear HW
    go_wp2_with fail
    exact⟨rfl,HM3.out,.inr ⟨HVV.out,rfl⟩⟩
theorem Dk : ∀d:Nat,rq d
 | 0=>oC 0 (fun _ h=>by cases h)
 | d+1=>oC (d+1) (fun d' h=>by cases h;exact Dk d)
def bW (W:World)(R:Nat)(l:List UInt8)(k:Nat)(bad:Bool):Prop:=∃a n c,ac W R 166 [.slice a n c,.int .i64 (k:Int),.bool bad]/\n<=c/\k<=n/\Sl 1 ai W a n l/\(n=0\/∀ad,a=some ad->ad.block<R)
theorem bW.lt {R k:Nat}{W:World}{l:List UInt8}{q:Bool}(h:bW W R l k q):R<W.heap.size:=by
 obtain⟨a,m,c,h1,_⟩:=h
 exact h1.lt
theorem bW.le {R k:Nat}{W:World}{l:List UInt8}{q:Bool}(h:bW W R l k q):k<=l.length:=by
 obtain⟨a,m,c,_,_,h1,h2,_⟩:=h
 rw[h2.1];exact h1
theorem bW.keep {R k:Nat}{W W':World}{l:List UInt8}{q:Bool}(h:bW W R l k q)(hk:∀i,i<=R->W'.heap[i]? = W.heap[i]?):bW W' R l k q:=by
 obtain⟨a,m,c,h1,h2,h3,h4,h5⟩:=h
 exact⟨a,m,c,(hk R (Nat.le_refl _)).trans h1,h2,h3,Sl.older h4 h5 (fun i hlt=>hk i om),h5⟩
theorem bW.below {R k:Nat}{W W':World}{l:List UInt8}{q:Bool}(h:bW W R l k q)(hb:Below W.heap.size W W'):bW W' R l k q:=h.keep fun i hi=>hb.block i (by have:=h.lt;omega)
theorem bW.moves {R X k:Nat}{W W':World}{l:List UInt8}{q:Bool}(h:bW W R l k q)(hm:az X W W')(hX:R<X):bW W' R l k q:=h.keep fun i hi=>hm.block i (by have:=h.lt;omega) om
theorem bW.grown {R base n k:Nat}{W W':World}{e:TypeId}{size:Nat}{v:Value}{xs:List Value}{l:List UInt8}{q:Bool}(h:bW W R l k q)(ho:W.ownsRow base e size v n xs)(hR:R<base)(hg:W.grownBy W' v.ownBlock):bW W' R l k q:=
 h.keep fun i hi=>hg.block i (by have:=h.lt;omega) (fun e1=>by have:=bU ho i e1.symm;omega)
theorem bW.setX {R X i k:Nat}{W:World}{l:List UInt8}{q:Bool}(h:bW W R l k q)(hX:R<X)(v:Value):bW (W.setCell ⟨X,i,none⟩ v) R l k q:=h.moves ((az.refl X W).setCell rfl v) hX
theorem bW.cells {R k:Nat}{W:World}{l:List UInt8}{q:Bool}(h:bW W R l k q):∃a n c,l.length=n/\n<=c/\k<=n/\W.cell? ⟨R,0,none⟩=some (.slice a n c)/\W.cell? ⟨R,1,none⟩=some (.int .i64 (k:Int))/\W.cell? ⟨R,2,none⟩=some (.bool q)/\W.frozen? ⟨R,0,none⟩=false/\W.frozen? ⟨R,1,none⟩=false/\W.frozen? ⟨R,2,none⟩=false/\ac W R 166 [.slice a n c,.int .i64 (k:Int),.bool q]/\Sl 1 ai W a n l/\(n=0\/∀ad,a=some ad->ad.block<R):=by
 obtain⟨a,n,c,h1,h2,h3,h4,h5⟩:=h
 have e:W.heap[R]? = some (.cells #[.slice a n c,.int .i64 (k:Int),.bool q] 166 (0,0)):=h1
 exact⟨a,n,c,h4.1,h2,h3,ac.cell h1 0,ac.cell h1 1,ac.cell h1 2,by simp[World.frozen?,e],by simp[World.frozen?,e],by simp[World.frozen?,e],h1,h4,h5⟩
theorem bW.setBad {R k:Nat}{W:World}{l:List UInt8}{q:Bool}(h:bW W R l k q)(p:Bool):bW (W.setCell ⟨R,2,none⟩ (.bool p)) R l k p:=by
 obtain⟨a,n,c,h1,h2,h3,h4,h5⟩:=h
 have hr:=ax h1 2 (.bool p)
 refine⟨a,n,c,by simpa[ac] using hr,h2,h3,Sl.older h4 h5 (fun i hi=>((az.refl R W).setCell (p:=⟨R,2,none⟩) rfl _).block i ?_ om),h5⟩
 have:=h1.lt;omega
theorem bW.setAt {R k k':Nat}{W:World}{l:List UInt8}{q:Bool}(h:bW W R l k q)(hk:k'<=l.length):bW (W.setCell ⟨R,1,none⟩ (.int .i64 (k':Int))) R l k' q:=by
 obtain⟨a,n,c,h1,h2,h3,h4,h5⟩:=h
 have hr:=ax h1 1 (.int .i64 (k':Int))
 refine⟨a,n,c,by simpa[ac] using hr,h2,by rw[<-h4.1];exact hk,Sl.older h4 h5 (fun i hi=>((az.refl R W).setCell (p:=⟨R,1,none⟩) rfl _).block i ?_ om),h5⟩
 have:=h1.lt;omega
theorem AJ {W:World}{a:Option Addr}{n k:Nat}{l:List UInt8}(h:Sl 1 ai W a n l)(hk:k<n):∃b off c r,a=some ⟨b,off,none⟩/\l.drop k=c::r/\r=l.drop (k+1)/\W.cell? ⟨b,off+k,none⟩=some (.int .u8 c.toNat):=by
 have hl:=h.1
 rcases h.2 with h0|⟨b,off,ha,hc⟩
 ·omega
 ·have hlt:k<l.length:=om
  obtain⟨vs,_,hv,hcell⟩:=hc k l[k] (List.getElem?_eq_getElem hlt)
  cases hv
  refine⟨b,off,l[k],l.drop (k+1),ha,List.drop_eq_getElem_cons hlt,rfl,?_⟩
  have:=hcell 0 _ rfl
  simpa using this
theorem tB (R k:Nat)(l:List UInt8)(q:Bool)(w:World)(hl:l.length<=1000000)(h:bW w R l k q) :
  Calls Tryz.prog 146 #[.pointer (some ⟨R,0,none⟩)] w fun e w'=>az R w w'/\∃x:Nat,e=.returned (.int .u8 (x:Int))/\((∃c r,l.drop k=c::r/\r=l.drop (k+1)/\x=c.toNat/\bW w' R l (k+1) q)\/(l.drop k=[]/\x=0/\bW w' R l k true)):=by
 obtain⟨a,n,c,hln,hnc,hkn,f0,f1,f2,z0,z1,z2,hr,hs,ho⟩:=h.cells
 have H:=aa h
 have HS:=aa hs
 have HO:=aa ho
 have HL:=aa hl
 have HLN:=aa hln
 clear hr hs ho hl h
 have hn6:n<=1000000:=by have:=HL.out;omega
 go_enter Tryz.func146,Tryz.ntmps146
 by_cases hlt:k<n
 ·have g1:¬(n:Int)<=(k:Int):=om
  have g2:(k:Int)<(n:Int):=om
  obtain⟨b,off,x,r,rfl,hd,hrr,hcell⟩:=AJ HS.out hlt
  have hbR:b<R:=by
   rcases HO.out with h0|h0
   ·omega
   ·exact h0 _ rfl
  have HD:=aa hd
  have HRR:=aa hrr
  clear hd hrr
  go_wp2_with fail
  go_region
  go_upto_region 5 with (fail)
  obtain⟨w1,hw1⟩:=zg ((w.setCell ⟨R,1,none⟩ (.int .i64 ((k:Int)+1))).drew)
  rw[<-hw1]
  have hm:az R w w1:=by rw[hw1];exact((az.refl R w).setCell rfl _).drew
  have hr1:bW w1 R l (k+1) q:=by
   have h9:=H.out.setAt (k':=k+1) (by have:=HLN.out;omega)
   rw[hw1]
   exact h9.below ((Below.refl _ _).drew)
  obtain⟨a',n',c',e1,_,_,p0,p1,p2,_,_,_,hr1r,_,_⟩:=hr1.cells
  have hc1:w1.cell? ⟨b,off+k,none⟩=some (.int .u8 x.toNat):=by
   rw[World.cell?_of_block (hm.block b (by have:=H.out.lt;omega) om)]
   exact hcell
  have hp0:w1.cell? ⟨R,0,none⟩=some (.slice (some ⟨b,off,none⟩) n c):=by
   rw[hw1]
   have h9:(w.setCell ⟨R,1,none⟩ (.int .i64 ((k:Int)+1))).drew.cell? ⟨R,0,none⟩=w.cell? ⟨R,0,none⟩:=by go_simp
   rw[h9,f0]
  have HM:=aa hm
  have HR1:=aa hr1
  clear hw1 hm hr1 e1 hr1r f0 f1 f2 z0 z1 z2 hcell p0 p2
  go_region
  go_wp2_with fail
  go_ret
  refine⟨HM.out.drew,x.toNat,rfl,.inl ⟨x,r,HD.out,HRR.out,rfl,HR1.out.below ((Below.refl _ _).drew)⟩⟩
 ·have g1:(n:Int)<=(k:Int):=om
  have HK:Hid (l.drop k=[]):=List.drop_eq_nil_of_le om
  go_wp2_with fail
  go_region
  go_wp2_with fail
  go_ret
  refine⟨((az.refl R w).setCell (p:=⟨R,2,none⟩) rfl (.bool true)).drew,0,rfl,.inr ⟨HK.out,rfl,(H.out.setBad true).below ((Below.refl _ _).drew)⟩⟩
theorem wN {o:Oper}{act:Act}{W:World}(p q:Operand)(ho:o.op=.binOp .rem 5 p q 5)(x:Nat)(hx:x<256)(hp:act.eval p=.int .u8 (x:Int))(hq:act.eval q=.int .u8 128):(execOp act.eval o).run Tryz.prog W=.ok (.value (.int .u8 ((x%128:Nat):Int))) W:=by
 have h3:IntKind.u8.wrap ((x:Int).tmod 128)=((x%128:Nat):Int):=by rw[Int.tmod_eq_emod_of_nonneg om,IntKind.wrap_u8];omega
 have h':(binOp .rem 5 (.int .u8 (x:Int)) (.int .u8 128)).run Tryz.prog W=.ok (.int .u8 ((x%128:Nat):Int)) W:=by
  rw[<-h3]
  go_simp
  exact Int.tmod_eq_emod_of_nonneg om
 unfold execOp
 simp only[ho,hp,hq]
 rw[show (eqGuard .rem 5 p q (.int .u8 (x:Int)) (.int .u8 128))=pure () from rfl]
 simp only[Sem.run_bind,Sem.run_pure,Result.andThen_ok,h']
theorem AK {o:Oper}{act:Act}{W:World}(p q:Operand)(ho:o.op=.binOp .add 75 p q 75)(x y:Nat)(hx:x+y<18446744073709551616)(hp:act.eval p=.int .u64 (x:Int))(hq:act.eval q=.int .u64 (y:Int)):(execOp act.eval o).run Tryz.prog W=.ok (.value (.int .u64 ((x+y:Nat):Int))) W:=by
 have h3:IntKind.u64.wrap ((x:Int)+(y:Int))=((x+y:Nat):Int):=by rw[IntKind.wrap_u64];omega
 have h':(binOp .add 75 (.int .u64 (x:Int)) (.int .u64 (y:Int))).run Tryz.prog W=.ok (.int .u64 ((x+y:Nat):Int)) W:=by
  refine Eq.trans ?_ (show Result.ok (.int .u64 (IntKind.u64.wrap ((x:Int)+(y:Int)))) W=_ by rw[h3])
  kernel_rfl
 unfold execOp
 simp only[ho,hp,hq]
 rw[show (eqGuard .add 75 p q (.int .u64 (x:Int)) (.int .u64 (y:Int)))=pure () from rfl]
 simp only[Sem.run_bind,Sem.run_pure,Result.andThen_ok,h']
def AL (R k:Nat)(l:List UInt8)(e:Ending)(w:World):Prop:=
 (∃u k',bv 0 (l.drop k)=some (u,l.drop k')/\k<k'/\k'<=l.length/\e=.returned (.int .u64 (u:Int))/\bW w R l k' false)\/(bv 0 (l.drop k)=none/\e=.returned (.int .u64 0)/\∃k',bW w R l k' true)
theorem lP (R k:Nat)(l:List UInt8)(w:World)(hl:l.length<=1000000)(h:bW w R l k false) :
  Calls Tryz.prog 147 #[.pointer (some ⟨R,0,none⟩)] w fun e w'=>AL R k l e w'/\az R w w':=by
 have H:=aa h
 have HL:=aa hl
 clear h hl
 go_enter Tryz.func147,Tryz.ntmps147
 go_wp2_with fail
 go_loopw [3,4] (fun s3 s4 wr=>∃(i u kk:Nat),i<=9/\k<=kk/\s4=.int .i64 i/\s3=.int .u64 u/\u<2 ^ (7*i)/\bv 0 (l.drop k)=gF u i (bv i (l.drop kk))/\bW wr R l kk false/\az R w wr) (fun _ s4 _=>10-(intOf s4).toNat)
 case atStart=>exact⟨0,0,k,om,Nat.le_refl _,rfl,rfl,by simp,by cases h9:bv 0 (l.drop k) with|none=>rfl|some p=>obtain⟨v,s⟩:=p;simp[gF],H.out,az.refl _ _⟩
 case round =>
  obtain⟨i,u,kk,hi,hkk,rfl,rfl,hu,hj,hr,hm⟩:=hrel
  have HU:=aa hu
  have HJ:=aa hj
  have HM:=aa hm
  have HI:Hid (i<=9):=hi
  have HKK:Hid (k<=kk):=hkk
  obtain⟨_,_,_,_,_,_,_,_,f2,_,_,_,_,_,_⟩:=hr.cells
  have HT:=aa (tB R kk l false wr HL.out hr)
  have i0:(0:Int)<=(i:Int):=om
  clear hu hj hm hr hi hkk
  go_wp2_with fail
  refine HT.out.mono ?_
  rintro e w1 ⟨hm1,x,rfl,hx⟩
  have HX:=aa hx
  have hx256:x<256:=by
   rcases hx with ⟨c,r,_,_,rfl,_⟩|⟨_,rfl,_⟩
   ·exact c.toNat_lt
   ·omega
  have HX256:=aa hx256
  have HM1:Hid (az R w w1):=HM.out.trans hm1
  clear hx hm1 HT HM f2 hx256
  go_upto_region 6 with (fail)
  go_cut [28] (fun s28 wx=>s28=.bool (decide ((i≠0/\x=0)\/(9<=i/\1<x)))/\w1=wx)
  case first =>
   by_cases hi0:i=0
   ·have b1:((i:Int) == 9)=false:=by simp;omega
    have b2:¬(0:Int)<(i:Int):=om
    have HV:Hid (decide ((i≠0/\x=0)\/(9<=i/\1<x))=false):=by rw[Hid,decide_eq_false_iff_not];omega
    clear hi0
    go_wp2_with fail
    go_meet
    exact⟨by rw[HV.out],rfl⟩
   ·by_cases hi9:i=9
    ·have b1:((i:Int) == 9)=true:=by simp;omega
     have b2:(0:Int)<(i:Int):=om
     by_cases hx1:1<x
     ·have b3:(1:Int)<(x:Int):=om
      have HV:Hid (decide ((i≠0/\x=0)\/(9<=i/\1<x))=true):=by rw[Hid,decide_eq_true_eq];omega
      clear hi0 hi9 hx1
      go_wp2_with fail
      go_meet
      exact⟨by rw[HV.out],rfl⟩
     ·have b3:¬(1:Int)<(x:Int):=om
      by_cases hx0:x=0
      ·have b4:((x:Int) == 0)=true:=by simp;omega
       have HV:Hid (decide ((i≠0/\x=0)\/(9<=i/\1<x))=true):=by rw[Hid,decide_eq_true_eq];omega
       clear hi0 hi9 hx1 hx0
       go_wp2_with fail
       go_meet
       exact⟨by rw[HV.out],rfl⟩
      ·have b4:((x:Int) == 0)=false:=by simp;omega
       have HV:Hid (decide ((i≠0/\x=0)\/(9<=i/\1<x))=false):=by rw[Hid,decide_eq_false_iff_not];omega
       clear hi0 hi9 hx1 hx0
       go_wp2_with fail
       go_meet
       exact⟨by rw[HV.out],rfl⟩
    ·have b1:((i:Int) == 9)=false:=by simp;omega
     have b2:(0:Int)<(i:Int):=om
     have hi8:=HI.out
     by_cases hx0:x=0
     ·have b4:((x:Int) == 0)=true:=by simp;omega
      have HV:Hid (decide ((i≠0/\x=0)\/(9<=i/\1<x))=true):=by rw[Hid,decide_eq_true_eq];omega
      clear hi0 hi9 hi8 hx0
      go_wp2_with fail
      go_meet
      exact⟨by rw[HV.out],rfl⟩
     ·have b4:((x:Int) == 0)=false:=by simp;omega
      have HV:Hid (decide ((i≠0/\x=0)\/(9<=i/\1<x))=false):=by rw[Hid,decide_eq_false_iff_not];omega
      clear hi0 hi9 hi8 hx0
      go_wp2_with fail
      go_meet
      exact⟨by rw[HV.out],rfl⟩
  case rest =>
  obtain⟨rfl,rfl⟩:=hcut
  obtain⟨bad,hbad⟩:=zg (decide ((i≠0/\x=0)\/(9<=i/\1<x)))
  rw[<-hbad]
  have HBAD:=aa hbad
  clear hbad
  obtain⟨k1,q1,hr1⟩:∃k1 q1,bW w1 R l k1 q1:=by
   rcases HX.out with ⟨c,r,_,_,_,h9⟩|⟨_,_,h9⟩
   ·exact⟨_,_,h9⟩
   ·exact⟨_,_,h9⟩
  cases bad with
  | true =>
   have hbb:=of_decide_eq_true HBAD.out.symm
   have HBB:=aa hbb
   clear hbb
   obtain⟨_,_,_,_,_,_,f0,f1,f2,z0,z1,z2,_,_,_⟩:=hr1.cells
   have HR1:=aa hr1
   clear hr1
   go_wp2_with fail
   go_ret
   refine⟨.inr ⟨?_,rfl,k1,HR1.out.setBad true⟩,HM1.out.setCell rfl _⟩
   rw[HJ.out]
   rcases HX.out with ⟨c,r,h1,h2,rfl,_⟩|⟨h1,_,_⟩
   ·rw[h1,eT,if_pos (show (i≠0/\c.toNat=0)\/(9<=i/\1<c.toNat) from HBB.out)];rfl
   ·rw[h1];rfl
  | false =>
   have hbb:=of_decide_eq_false HBAD.out.symm
   have HBB:=aa hbb
   clear hbb
   have hx128:x%128<128:=Nat.mod_lt _ om
   have hps:=kR HU.out hx128 (by have h1:=HI.out;have h2:=HBB.out;have h3:=Nat.mod_le x 128;omega)
   have HPS:=aa hps
   have h256:x%128<256:=om
   have hi63:7*i<=63:=by have:=HI.out;omega
   have hi100:i<=100:=by have:=HI.out;omega
   have hmul:x%128*2 ^ (7*i)<18446744073709551616:=by have:=hps.2;omega
   have H256:=aa h256
   have H63:=aa hi63
   have H100:=aa hi100
   have HMUL:=aa hmul
   clear hx128 hps h256 hi63 hi100 hmul hr1
   go_upto_region 10 with (first
    | (refine aG (.int .u8 ((x%128:Nat):Int)) rfl (wN (.tmp 33) (.const (.int .u8 128)) rfl x HX256.out rfl rfl) ?_;simp only[Act.put,zp])
    | (refine aG (.int .u64 ((x%128:Nat):Int)) rfl (jC (.tmp 34) rfl (x%128) H256.out rfl) ?_;simp only[Act.put,zp])
    | (refine aG (.int .i64 ((7*i:Nat):Int)) rfl (ml (.const (.int .i64 7)) (.tmp 36) rfl i H100.out rfl rfl) ?_;simp only[Act.put,zp])
    | (refine aG (.int .u64 ((x%128*2 ^ (7*i):Nat):Int)) rfl (mo (.tmp 35) (.tmp 37) rfl (x%128) (7*i) H63.out HMUL.out rfl rfl) ?_;simp only[Act.put,zp])
    | (refine aG (.int .u64 ((u+x%128*2 ^ (7*i):Nat):Int)) rfl (AK (.tmp 32) (.tmp 38) rfl u (x%128*2 ^ (7*i)) HPS.out.2 rfl rfl) ?_;simp only[Act.put,zp]))
   obtain⟨u',hu'⟩:∃q,q=u+x%128*2 ^ (7*i):=⟨_,rfl⟩
   rw[<-hu']at HPS ⊢
   have HU':=aa hu'
   clear hu'
   by_cases hx8:x<128
   ·have b5:(x:Int)<128:=om
    have HX8:Hid (x<128):=hx8
    clear hx8
    go_wp2_with fail
    go_ret
    refine⟨?_,HM1.out⟩
    rcases HX.out with ⟨c,r,h1,h2,h3,h4⟩|⟨h1,h2,h3⟩
    ·refine .inl ⟨u',kk+1,?_,by have:=HKK.out;omega,h4.le,rfl,h4⟩
     subst h3
     rw[HJ.out,h1,kQ HBB.out HX8.out,<-HU'.out,h2]
    ·refine .inr ⟨by rw[HJ.out,h1];rfl,?_,_,h3⟩
     have hi0:i=0:=by have:=HBB.out;omega
     have hu0:=HU.out
     rw[hi0]at hu0
     have:u=0:=by simpa using hu0
     rw[HU'.out,h2,this]
     simp
   ·have b5:¬(x:Int)<128:=om
    have HX8:Hid (¬x<128):=hx8
    clear hx8
    have hi9:i<=9:=HI.out
    go_wp2_with fail
    go_roundw
    case rel =>
     rcases HX.out with ⟨c,r,h1,h2,h3,h4⟩|⟨h1,h2,h3⟩
     ·subst h3
      refine⟨i+1,u',kk+1,?_,by have:=HKK.out;omega,by go_num,rfl,HPS.out.1,?_,h4,HM1.out⟩
      ·have h5:=HI.out
       have h6:=HBB.out
       have h7:=HX8.out
       omega
      ·rw[HJ.out,h1,jE HBB.out HX8.out,<-HU'.out,h2]
     ·exfalso
      have:=HX8.out
      omega
    case measure=>simp[intOf];have:=HI.out;omega
theorem sM (X2 X3:Nat)(w:World) :
  CallsD Tryz.prog 126 #[.pointer (some ⟨X2,0,none⟩),.pointer (some ⟨X3,0,none⟩)] .returning w fun e u' w'=>e=.returned (.tuple #[])/\u'=.returning/\w'=w:=by
 have hq:∀w,(binOp .neq 20 .nilIface .nilIface).run Tryz.prog w=.ok (.bool false) w:=fun _=>by kernel_rfl
 refine callsD_of_wpS Tryz.func126 rfl fun c₀ cs hu => ?_
 apply wpS_seq
 apply wpS_region
 simp[wpOpsS,go_sem,recoverD,hu,Tryz.ntmps126,Exit.thenS]
 refine wpS_of_wp ?_
 change Code.wp _ _ _ { tmps:=#[.pointer (some ⟨X2,0,none⟩),.pointer (some ⟨X3,0,none⟩),.nilIface,.nilIface,undef,undef,undef,undef,undef],defers:=[] } w
 go_wp2
 cases c₀
 simp_all [bodyPostS,results,Tryz.results126]
theorem oD (X2 X3:Nat)(older:List PanicEntry)(w:World){v0 v1 v2 v3 u:Value}(h2:ac w X2 88 [v0,v1,v2,v3])(h3:ac w X3 31 [u])(hne:X2≠X3) :
  CallsD Tryz.prog 126 #[.pointer (some ⟨X2,0,none⟩),.pointer (some ⟨X3,0,none⟩)] (.panicking (jA::older)) w fun e u' w' =>
   e=.returned (.tuple #[])/\u'=.panicking ({ jA with recovered:=true }::older)/\(ac w' X2 88 [.int .i64 0,.int .i64 0,.string ⟨#[]⟩,.slice none 0 0]/\ac w' X3 31 [.int .i64 10]/\∀B,B<=X2->B<=X3->Below B w w'):=by
 have hq:∀w,(binOp .neq 20 (.iface 31 (.int .i64 10)) .nilIface).run Tryz.prog w=.ok (.bool true) w:=fun _=>by kernel_rfl
 have ht:∀w,(Instr.typeAssert (.iface 31 (.int .i64 10)) 20 31 false).run Tryz.prog w=.ok (.int .i64 10) w:=fun _=>by kernel_rfl
 refine callsD_of_wpS Tryz.func126 rfl fun c₀ cs hu => ?_
 apply wpS_seq
 apply wpS_region
 simp[wpOpsS,go_sem,recoverD,hu,Tryz.ntmps126,Exit.thenS,jA]
 refine wpS_of_wp ?_
 change Code.wp _ _ _ { tmps:=#[.pointer (some ⟨X2,0,none⟩),.pointer (some ⟨X3,0,none⟩),.iface 31 (.int .i64 10),.iface 31 (.int .i64 10),undef,undef,undef,undef,undef],defers:=[] } w
 have H2:=aa h2
 have H3:=aa h3
 obtain⟨_,f0,f1,f2,f3,z0,_⟩:=aF (Below.refl _ w) h2
 have g0:w.cell? ⟨X3,0,none⟩=some u:=by have:=ac.cell h3 0;simpa using this
 have gz:w.frozen? ⟨X3,0,none⟩=false:=by unfold ac at h3;simp[World.frozen?,h3]
 clear h2 h3
 go_wp2
 go_region
 have e2:=ax (ax (ax (ax (show w.heap[X2]? = some (.cells #[v0,v1,v2,v3] 88 (0,0)) from H2.out) 0 (.int .i64 0)) 1 (.int .i64 0)) 2 (.string ⟨#[]⟩)) 3 (.slice none 0 0)
 have e3:ac ((((w.setCell ⟨X2,0,none⟩ (.int .i64 0)).setCell ⟨X2,1,none⟩ (.int .i64 0)).setCell ⟨X2,2,none⟩ (.string ⟨#[]⟩)).setCell ⟨X2,3,none⟩ (.slice none 0 0)) X3 31 [u]:=(((H3.out.setCell (p:=⟨X2,0,none⟩) hne.symm _).setCell (p:=⟨X2,1,none⟩) hne.symm _).setCell (p:=⟨X2,2,none⟩) hne.symm _).setCell (p:=⟨X2,3,none⟩) hne.symm _
 have e4:=ax e3 0 (.int .i64 10)
 have hfin:ac (((((w.setCell ⟨X2,0,none⟩ (.int .i64 0)).setCell ⟨X2,1,none⟩ (.int .i64 0)).setCell ⟨X2,2,none⟩ (.string ⟨#[]⟩)).setCell ⟨X2,3,none⟩ (.slice none 0 0)).setCell ⟨X3,0,none⟩ (.int .i64 10)).drew X2 88 [.int .i64 0,.int .i64 0,.string ⟨#[]⟩,.slice none 0 0]/\ac (((((w.setCell ⟨X2,0,none⟩ (.int .i64 0)).setCell ⟨X2,1,none⟩ (.int .i64 0)).setCell ⟨X2,2,none⟩ (.string ⟨#[]⟩)).setCell ⟨X2,3,none⟩ (.slice none 0 0)).setCell ⟨X3,0,none⟩ (.int .i64 10)).drew X3 31 [.int .i64 10]/\∀B,B<=X2->B<=X3->Below B w (((((w.setCell ⟨X2,0,none⟩ (.int .i64 0)).setCell ⟨X2,1,none⟩ (.int .i64 0)).setCell ⟨X2,2,none⟩ (.string ⟨#[]⟩)).setCell ⟨X2,3,none⟩ (.slice none 0 0)).setCell ⟨X3,0,none⟩ (.int .i64 10)).drew:=
  ⟨ac.drew (ac.setCell (p:=⟨X3,0,none⟩) e2 hne _),ac.drew e4,fun B h1 h2=>(((((Below.refl B w).setCell (p:=⟨X2,0,none⟩) h1 _).setCell (p:=⟨X2,1,none⟩) h1 _).setCell (p:=⟨X2,2,none⟩) h1 _).setCell (p:=⟨X2,3,none⟩) h1 _).setCell (p:=⟨X3,0,none⟩) h2 _ |>.drew⟩
 clear e2 e3 e4 H2 H3 f0 f1 f2 f3 z0 g0 gz
 generalize (((((w.setCell ⟨X2,0,none⟩ (.int .i64 0)).setCell ⟨X2,1,none⟩ (.int .i64 0)).setCell ⟨X2,2,none⟩ (.string ⟨#[]⟩)).setCell ⟨X2,3,none⟩ (.slice none 0 0)).setCell ⟨X3,0,none⟩ (.int .i64 10)).drew=w9 at *
 cases c₀
 show bodyPostS Tryz.prog Tryz.f126 _ _ _ _ _ _ _
 simp[bodyPostS,results,Tryz.results126]
 exact hfin
theorem uA (a:Option Addr)(n c:Nat)(l:List UInt8)(w:World)(hn:n<=1000000)(hnc:n<=c)(h:Sl 1 ai w a n l) :
  Calls Tryz.prog 101 #[.slice a n c] w fun e w'=>Below w.heap.size w w'/\((∃v x0 x1 x2 x3,ct l=some v/\e=.returned (.tuple #[.agg #[x0,x1,x2,x3],.int .i64 0])/\cu (fun k=>w.heap.size<=k) 16 w' [x0,x1,x2,x3] v)\/(ct l=none/\e=.returned (.tuple #[.agg #[.int .i64 0,.int .i64 0,.string ⟨#[]⟩,.slice none 0 0],.int .i64 10]))):=by
 have hmf:∀(fn:Fn) (first cap:Array Value) (w:World),(Instr.makeFunc fn first cap).run Tryz.prog w=.ok (.func fn first cap) w:=fun _ _ _ _=>rfl
 have H:=aa h
 have HN:=aa hn
 have HNC:=aa hnc
 clear h hn hnc
 go_enter_defers Tryz.func101,Tryz.ntmps101
 go_upto_region 3 with (fail)
 obtain⟨X2,hX2⟩:=zg w.heap.size
 obtain⟨X3,hX3⟩:=zg (w.heap.size+1)
 obtain⟨R,hR⟩:=zg (w.heap.size+2)
 obtain⟨w1,hw1⟩:=zg (((w.alloc (.cells #[.int .i64 0,.int .i64 0,.string ⟨#[]⟩,.slice none 0 0] 88)).alloc (.cells #[.int .i64 0] 31)).alloc (.cells #[.slice a n c] 161))
 rw[<-hw1,<-hR,<-hX3,<-hX2]
 have hB1:Below w.heap.size w w1:=by rw[hw1];exact(((Below.refl _ w).alloc (Nat.le_refl _) _).alloc (by simp) _).alloc (by simp;omega) _
 have h2:ac w1 X2 88 [.int .i64 0,.int .i64 0,.string ⟨#[]⟩,.slice none 0 0]:=by rw[hw1,hX2];exact aB _ (aB _ (ak _ rfl))
 have h3:ac w1 X3 31 [.int .i64 0]:=by rw[hw1,hX3];exact aB _ (ak _ (by simp))
 have hr:ac w1 R 161 [.slice a n c]:=by rw[hw1,hR];exact ak _ (by simp)
 have hrest:ce w1 R l:=⟨a,n,c,hr,HNC.out,H.out.below ai.keeps hB1,by
  rcases H.out.2 with h0|⟨b,off,ha,hc⟩
  ·exact .inl h0
  ·by_cases hz:n=0
   ·exact .inl hz
   ·refine .inr fun ad had => ?_
    rw[ha]at had
    cases had
    obtain⟨x,hx⟩:=av H.out.1 (Nat.pos_of_ne_zero hz)
    obtain⟨vs,_,hv,hcell⟩:=hc 0 x hx
    cases hv
    have h5:=hcell 0 _ rfl
    unfold World.cell? at h5
    cases hh:w.heap[b]? with
    | none=>simp[hh]at h5
    | some o=>have:=lt_of_block hh;show b<R;omega⟩
 have HX2:Hid (w.heap.size<=X2/\w.heap.size<=X3/\X2≠X3/\X2<R/\X3<R):=by show _/\_;omega
 have HR2:Hid (w.heap.size<=R):=by show _<=_;omega
 have HV:=aa (Dk 16 R l w1 om (by have h9:=H.out.1;have:=HN.out;omega) hrest)
 have HB1:=aa hB1
 have H2:=aa h2
 have H3:=aa h3
 clear hw1 hX2 hX3 hR hB1 h2 h3 hr hrest
 go_wp2_with fail
 refine HV.out.mono ?_
 rintro e w2 ⟨hm,(⟨v,s,x0,x1,x2,x3,hv,rfl,hvr,hrs⟩|⟨hv,rfl⟩)⟩
 rotate_left
 ·have hd:ct l=none:=by unfold ct;rw[hv]
  have h2:=hm.row (X:=X2) (by have:=HX2.out;omega) H2.out
  have h3:=hm.row (X:=X3) (by have:=HX2.out;omega) H3.out
  have hb:=HB1.out.trans (hm.below HR2.out HB1.out.size)
  have HD:=aa hd
  clear HV hv hm hd
  go_wp2_with fail
  refine leaves_cons (f:=126) (args:=#[.pointer (some ⟨X2,0,none⟩),.pointer (some ⟨X3,0,none⟩)]) (by simp) (by simp[go_sem]) ?_
  refine(oD X2 X3 [] w2 h2 h3 HX2.out.2.2.1).mono ?_
  rintro e u' w3 ⟨rfl,rfl,g2,g3,hb3⟩
  have HB3:=aa (hb.trans (hb3 _ HX2.out.1 HX2.out.2.1))
  obtain⟨_,f0,f1,f2,f3,_,_⟩:=aF (Below.refl _ w3) g2
  have f4:w3.cell? ⟨X3,0,none⟩=some (.int .i64 10):=by have:=ac.cell g3 0;simpa using this
  clear hb hb3 g2 g3 h2 h3
  simp[Leaves,settle,results,Tryz.results101,go_sem,f0,f1,f2,f3,f4]
  exact⟨HB3.out,HD.out⟩
 obtain⟨ra,m,rc,hrow,_,hsl,_⟩:=hrs
 have hml:=hsl.1
 have h2:=hm.row (X:=X2) (by have:=HX2.out;omega) H2.out
 have h3:=hm.row (X:=X3) (by have:=HX2.out;omega) H3.out
 have hb:=HB1.out.trans (hm.below HR2.out HB1.out.size)
 have HK:=aa (oB (uy hvr))
 have H22:=aa h2
 have hs79:(Tryz.prog.info? 88).map (·.size)=some #[x0,x1,x2,x3].size:=aS x0 x1 x2 x3
 have HS79:=aa hs79
 have hS:ac (w2.setRow X2 #[x0,x1,x2,x3]) X2 88 [x0,x1,x2,x3]:=setRow_heap _ _ _ _ _ _ h2
 have hX3':ac (w2.setRow X2 #[x0,x1,x2,x3]) X3 31 [.int .i64 0]:=(setRow_other w2 X2 X3 _ (by have:=HX2.out;omega)).trans h3
 have hR':ac (w2.setRow X2 #[x0,x1,x2,x3]) R 161 [.slice ra m rc]:=(setRow_other w2 X2 R _ (by have:=HX2.out;omega)).trans hrow
 have hvr':cu (fun k=>w.heap.size<=k/\k≠X2/\k≠X3) 16 (w2.setRow X2 #[x0,x1,x2,x3]) [x0,x1,x2,x3] v:=by
  have h9:=hvr.row (X:=X2) (D:=#[x0,x1,x2,x3]) (by have h8:=H2.out.lt;show ¬_<_;omega)
  exact h9.mono fun k hk _=>by have h8:=HB1.out.size;have h7:=H2.out.lt;have h6:=H3.out.lt;omega
 have hb':Below w.heap.size w (w2.setRow X2 #[x0,x1,x2,x3]):=below_setRow hb HX2.out.1 _
 have HV0:=aa hv
 clear HV hv hm hsl hvr hrow h2 h3 hb hs79 H2 H3 HB1
 go_upto_region 4 with (refine wpList_store_row rfl 88 (.tmp 2) (.tmp 10) rfl X2 #[x0,x1,x2,x3] ?q1a ?q1b 88 _ H22.out HS79.out rfl HK.out ?_;(case q1a=>rfl);(case q1b=>rfl))
 generalize w2.setRow X2 #[x0,x1,x2,x3]=w3 at *
 have f0:w3.cell? ⟨R,0,none⟩=some (.slice ra m rc):=by have:=ac.cell hR' 0;simpa using this
 have HS:=aa hS
 have HX3:=aa hX3'
 have HVR:=aa hvr'
 have HB:=aa hb'
 clear hS hX3' hR' hvr' hb' H22
 by_cases hm0:m=0
 ·have g1:((m:Int) == 0)=true:=by simp;omega
  have hs0:s=[]:=List.eq_nil_of_length_eq_zero om
  have HD:Hid (ct l=some v):=by rw[Hid,ct,HV0.out,hs0]
  have HW:=aa (fS R true w3)
  clear hm0 hs0 hml
  go_wp2_with fail
  refine HW.out.mono ?_
  rintro e w4 ⟨rfl,(⟨_,rfl⟩|⟨hb,_⟩)⟩
  rotate_left
  ·cases hb
  clear HW g1 f0
  go_upto_region 5 with (fail)
  refine wp_region_lit ?_
  refine aG (.agg #[x0,x1,x2,x3]) rfl (aH 88 (.tmp 2) rfl X2 0 rfl [x0,x1,x2,x3] _ (ac.range HS.out) Tryz.underlying88 rfl HS79.out) ?_
  simp only[Act.put,zp]
  refine wpList_store_row rfl 88 (.tmp 2) (.tmp 19) rfl X2 #[x0,x1,x2,x3] ?q2a ?q2b 88 _ HS.out HS79.out rfl HK.out ?_
  case q2a=>rfl
  case q2b=>rfl
  have hS5:ac (w3.setRow X2 #[x0,x1,x2,x3]) X2 88 [x0,x1,x2,x3]:=setRow_heap _ _ _ _ _ _ HS.out
  have hX5:ac (w3.setRow X2 #[x0,x1,x2,x3]) X3 31 [.int .i64 0]:=(setRow_other w3 X2 X3 _ (by have:=HX2.out;omega)).trans HX3.out
  have hV5:=HVR.out.keep (A':=fun k=>w.heap.size<=k/\k≠X2/\k≠X3) (W':=w3.setRow X2 #[x0,x1,x2,x3]) (fun k hk _=>⟨hk,setRow_other w3 X2 k _ hk.2.1⟩)
  have hB5:Below w.heap.size w (w3.setRow X2 #[x0,x1,x2,x3]):=below_setRow HB.out HX2.out.1 _
  generalize w3.setRow X2 #[x0,x1,x2,x3]=w5 at *
  have g0:w5.cell? ⟨X3,0,none⟩=some (.int .i64 0):=by have:=ac.cell hX5 0;simpa using this
  have gz:w5.frozen? ⟨X3,0,none⟩=false:=by unfold ac at hX5;simp[World.frozen?,hX5]
  have HS5:=aa hS5
  have HV5:=aa hV5
  have HB5:=aa hB5
  have HX5:=aa hX5
  clear hS5 hV5 hB5 hX5 HS HX3 HVR HB
  go_wp2_with fail
  refine leaves_cons (f:=126) (args:=#[.pointer (some ⟨X2,0,none⟩),.pointer (some ⟨X3,0,none⟩)]) (by simp) (by simp[go_sem]) ?_
  refine(sM X2 X3 _).mono ?_
  rintro e u' w9 ⟨rfl,rfl,rfl⟩
  have h26:ac (w5.setCell ⟨X3,0,none⟩ (.int .i64 0)) X2 88 [x0,x1,x2,x3]:=ac.setCell (p:=⟨X3,0,none⟩) HS5.out HX2.out.2.2.1 _
  have h36:ac (w5.setCell ⟨X3,0,none⟩ (.int .i64 0)) X3 31 [.int .i64 0]:=by have:=ax HX5.out 0 (.int .i64 0);simpa[ac] using this
  have hV6:=HV5.out.keep (A':=fun k=>w.heap.size<=k) (W':=w5.setCell ⟨X3,0,none⟩ (.int .i64 0)) (fun k hk _=>⟨hk.1,Below.heap_setCell _ _ _ k hk.2.2⟩)
  have hB6:Below w.heap.size w (w5.setCell ⟨X3,0,none⟩ (.int .i64 0)):=HB5.out.setCell (p:=⟨X3,0,none⟩) HX2.out.2.1 _
  generalize w5.setCell ⟨X3,0,none⟩ (.int .i64 0)=w6 at *
  obtain⟨_,f0,f1,f2,f3,_,_⟩:=aF (Below.refl _ w6) h26
  have f4:w6.cell? ⟨X3,0,none⟩=some (.int .i64 0):=by have:=ac.cell h36 0;simpa using this
  have HV6:=aa hV6
  have HB6:=aa hB6
  clear hV6 hB6 h26 h36 g0 gz HS5 HV5 HB5 HX5
  simp[Leaves,settle,results,Tryz.results101,go_sem,f0,f1,f2,f3,f4]
  exact⟨HB6.out,v,HD.out,x0,x1,x2,x3,⟨rfl,rfl,rfl,rfl⟩,HV6.out⟩
 ·have g1:((m:Int) == 0)=false:=by simp;omega
  have HD:Hid (ct l=none):=by
   rw[Hid,ct,HV0.out]
   cases s with
   | nil=>simp at hml;omega
   | cons q r=>rfl
  have HW:=aa (fS R false w3)
  clear hm0 hml
  go_wp2_with fail
  refine HW.out.mono ?_
  rintro e w4 ⟨rfl,(⟨hb,_⟩|⟨_,rfl⟩)⟩
  ·cases hb
  clear HW g1 f0
  go_wp2_with fail
  refine leaves_cons (f:=126) (args:=#[.pointer (some ⟨X2,0,none⟩),.pointer (some ⟨X3,0,none⟩)]) (by simp) (by simp[go_sem]) ?_
  refine(oD X2 X3 [] w3 HS.out HX3.out HX2.out.2.2.1).mono ?_
  rintro e u' w9 ⟨rfl,rfl,g2,g3,hb3⟩
  have HB3:=aa (HB.out.trans (hb3 _ HX2.out.1 HX2.out.2.1))
  obtain⟨_,f0,f1,f2,f3,_,_⟩:=aF (Below.refl _ w9) g2
  have f4:w9.cell? ⟨X3,0,none⟩=some (.int .i64 10):=by have:=ac.cell g3 0;simpa using this
  clear hb3 g2 g3 
  simp[Leaves,settle,results,Tryz.results101,go_sem,f0,f1,f2,f3,f4]
  exact⟨HB3.out,HD.out⟩
end Go.Proofs.YtmflnpdmlfmcpaaGreatDoor.Dr
