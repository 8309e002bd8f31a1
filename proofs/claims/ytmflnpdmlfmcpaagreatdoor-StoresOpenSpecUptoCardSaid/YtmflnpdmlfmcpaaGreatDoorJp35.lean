/- Joined texts. -/
import Derived.Test.YtmflnpdmlfmcpaaGreatDoorJp11
import Derived.Test.YtmflnpdmlfmcpaaGreatDoorJp34
set_option maxRecDepth 100000
set_option maxHeartbeats 4000000
namespace Go.Proofs.YtmflnpdmlfmcpaaGreatDoor
open Go.RowKit
variable {Nz : Nat}
def am.same (j j':am):Bool:=decide (j.many=j'.many) && decide (j.synced=j'.synced) && decide (j.recs=j'.recs)
theorem am.same_refl (j:am):j.same j=true:=by simp[am.same]
theorem xI (a:Option Addr)(n c:Nat)(j:am)(b:Option Addr)(k e:Nat)(j':am)(w:World)(h:cg Nz w a n c j)(h':cg Nz w b k e j') :
  Calls Tryz.prog 11 #[.agg #[.slice a n c,.int .i64 j.many,.int .i64 j.synced],.agg #[.slice b k e,.int .i64 j'.many,.int .i64 j'.synced]] w fun e w'=>e=.returned (.bool (j.same j'))/\Below w.heap.size w w':=by
 have HC:Hid (∀W,Below w.heap.size w W->Calls Tryz.prog 30 #[.slice a n c,.slice b k e] W fun e w'=>e=.returned (.bool (decide (j.recs=j'.recs)))/\Below W.heap.size W w'):=fun W hW =>
  qQ _ _ _ _ _ _ _ _ W h.m (h.recs.below aN.keeps hW) (h'.recs.below aN.keeps hW) (by have:=h'.m;unfold maxLen;omega)
 obtain⟨m,hm⟩:=zg j.many
 obtain⟨s,hs⟩:=zg j.synced
 obtain⟨m',hm'⟩:∃m,m=j'.many:=⟨_,rfl⟩
 obtain⟨s',hs'⟩:∃s,s=j'.synced:=⟨_,rfl⟩
 have HS:Hid (j.same j'=(decide (m=m') && decide (s=s') && decide (j.recs=j'.recs))):=by show _=_;rw[am.same,hm,hs,hm',hs']
 rw[<-hm,<-hs,<-hm',<-hs']
 clear h h' hm hs hm' hs'
 go_enter Tryz.func11,Tryz.ntmps11
 by_cases h1:m=m'
 ·subst h1
  by_cases h2:s=s'
  ·subst h2
   have HV:Hid (j.same j'=decide (j.recs=j'.recs)):=by show _=_;rw[HS.out];simp
   go_wp2_with (go_at_call 30;refine(HC.out _ ?hb).mono ?_;rotate_right;rintro e w' ⟨rfl,hB⟩)
   case hb=>go_grown
   go_ret
   exact⟨bK HV.out.symm,Below.trans (by go_grown) (hB.mono (by simp;omega))⟩
  ·have HV:Hid (j.same j'=false):=by show _=_;rw[HS.out];simp[h2]
   have z:(s == s')=false:=by simpa using h2
   clear h2
   go_wp2
   go_ret
   exact⟨bK HV.out.symm,by go_grown⟩
 ·have HV:Hid (j.same j'=false):=by show _=_;rw[HS.out];simp[h1]
  have z:(m == m')=false:=by simpa using h1
  clear h1
  go_wp2
  go_ret
  exact⟨bK HV.out.symm,by go_grown⟩
def jK (l:List (List UInt8)):Nat:=(l.map fun b=>1+b.length).sum
end Go.Proofs.YtmflnpdmlfmcpaaGreatDoor
namespace Go.Proofs.YtmflnpdmlfmcpaaGreatDoor
open Go.RowKit Go.ChangeShapes Go.WideShapes Go.ChangeAt Go.Deep Go.Joins
theorem D8 {H:Type}(d:DataW H):1<=Rows.uptoBulk d:=by
 cases d with
 | lit l=>cases l<;>simp[Rows.uptoBulk]
 | nil=>simp[Rows.uptoBulk]
 | ptr d=>simp[Rows.uptoBulk]
 | slice elems spare=>simp[Rows.uptoBulk]
 | agg parts=>simp[Rows.uptoBulk]
 | iface t d=>simp[Rows.uptoBulk]
 | map entries=>simp[Rows.uptoBulk]
 | held h=>simp[Rows.uptoBulk]
theorem sZ {H:Type}(l r:List (DataW H)):Rows.uptoBulkAll (l++r)=Rows.uptoBulkAll l+Rows.uptoBulkAll r:=by
 induction l with
 | nil=>simp[Rows.uptoBulkAll]
 | cons x l ih=>simp only[List.cons_append,Rows.uptoBulkAll,ih];omega
theorem s8 {α H:Type}{Q:Nat->α->Prop}(M:α->Nat)(D:Nat->DataW H):∀n:Nat,(∀i,i<n->∃x,Q i x/\M x<=Rows.uptoBulk (D i)) ->
  ∃xs:List α,xs.length=n/\(∀(i:Nat) x,xs[i]? = some x->Q i x)/\(xs.map M).sum<=Rows.uptoBulkAll ((List.range n).map D):=by
 intro n
 induction n with
 | zero=>intro _;exact⟨[],rfl,fun i x h=>by simp at h,by simp[Rows.uptoBulkAll]⟩
 | succ n ih =>
  intro h
  obtain⟨xs,h1,h2,h3⟩:=ih (fun i hi=>h i om)
  obtain⟨x,hx,hm⟩:=h n om
  refine⟨xs++[x],by simp[h1],fun i y hy => ?_,?_⟩
  ·rw[List.getElem?_append]at hy
   split at hy
   ·exact h2 i y hy
   ·rename_i hi
    have:i=n:=by
     have:=(List.getElem?_eq_some_iff.1 hy).1
     simp at this
     omega
    subst this
    rw[h1]at hy
    simp only[Nat.sub_self,List.getElem?_cons_zero,Option.some.injEq]at hy
    subst hy
    exact hx
  ·rw[List.range_succ,List.map_append,List.map_append,sZ,List.sum_append]
   simp only[List.map_cons,List.map_nil,List.sum_cons,List.sum_nil,Rows.uptoBulkAll]
   omega
section
variable {H : Type} {enc : TypeId × Value -> H} {P : Program}
theorem CT {α:Type}{W:World}{held:Bool}{t e:TypeId}{fuel k:Nat}{v:Value}{y:DataW H × List MemPlace}{R:World->List Value->α->Prop}(M:α->Nat)(ht:P.underlying t=some (.slice e))(hC:P.cellsOf e=k)(hk:0<k)
  (hR:∀(n:Nat) (cs:List Value) (z:DataW H × List MemPlace),DataW.trod enc P W 0 (fun _=>true) held n e cs=some z->cs.length=k->∃x,R W cs x/\M x<=Rows.uptoBulk z.1)
  (h:DataW.trod enc P W 0 (fun _=>true) held fuel t [v]=some y):∃a n c xs,v=.slice a n c/\n<=maxLen/\n<=c/\Sl k R W a n xs/\(xs.map M).sum+1<=Rows.uptoBulk y.1:=by
 subst hC
 rcases open_slice ht h with ⟨h0,hy⟩|⟨a,len,cap,m,n,D,Pl,hcs,hb,hl,hm,hmm,hx,hi⟩
 ·simp only[List.cons.injEq,and_true]at h0
  exact⟨none,0,0,[],h0,by unfold maxLen;omega,Nat.le_refl _,Sl.nil _ _ _ _,by subst hy;simp[Rows.uptoBulk]⟩
 ·simp only[List.cons.injEq,and_true]at hcs
  simp only[if_true]at hmm
  subst hmm
  obtain⟨xs,h1,h2,h3⟩:=s8 (Q:=fun i x=>∃cs',W.cells? 0 (a.add (i*P.cellsOf e)) (P.cellsOf e)=some cs'/\R W cs' x) M D len (fun i hlt=>by
   obtain⟨cs',g1,g2⟩:=hi i om
   obtain⟨_,g3,_⟩:=World.cells?_some g1
   obtain⟨x,hx',hmx⟩:=hR n cs' _ g2 g3
   exact⟨x,⟨cs',g1,hx'⟩,hmx⟩)
  refine⟨some a,len,m,xs,hcs,om,hl,⟨h1,?_⟩,?_⟩
  ·by_cases h0:len=0
   ·exact .inl h0
   ·right
    obtain⟨x0,hx0⟩:=av h1 (show 0<len by omega)
    obtain⟨cs0,hc0,_⟩:=h2 0 x0 hx0
    obtain⟨_,hl0,hget0⟩:=World.cells?_some hc0
    have hsp:a.spot=none:=by
     have:=hget0 0 hk
     rw[List.getElem?_eq_getElem om]at this
     simp only[Nat.zero_mul,Addr.add,if_true]at this
     unfold World.cell? at this
     cases hs:a.spot with
     | none=>rfl
     | some s =>
      rw[hs]at this
      split at this<;>simp at this
    refine⟨a.block,a.off,?_,fun i x hx' => ?_⟩
    ·cases a;simp only at hsp;subst hsp;rfl
    ·obtain⟨cs',g1,g2⟩:=h2 i x hx'
     obtain⟨_,g3,g4⟩:=World.cells?_some g1
     refine⟨cs',g3,g2,fun j u hu => ?_⟩
     have hj:j<P.cellsOf e:=by
      have:=(List.getElem?_eq_some_iff.1 hu).1
      omega
     have:=g4 j hj
     rw[hu]at this
     have e1:(a.add (i*P.cellsOf e)).add j=⟨a.block,a.off+i*P.cellsOf e+j,none⟩:=by
      unfold Addr.add
      split<;>split<;>simp_all<;>(try (cases a;simp_all))
     rw[e1]at this
     exact this
  ·rw[hx]
   simp only[Rows.uptoBulk]
   omega
theorem Bb (l:List UInt8):(l.map fun _=>1).sum=l.length:=by
 induction l with
 | nil=>rfl
 | cons b l ih=>simp[ih];omega
end
section
variable {H : Type} {enc : TypeId × Value -> H}
theorem CU {W:World}{held:Bool}(n:Nat)(cs:List Value)(z:DataW H × List MemPlace)(h:DataW.trod enc Tryz.prog W 0 (fun _=>true) held n 40 cs=some z)(hl:cs.length=1):∃bs,aN W.heap.size W cs bs/\1+bs.length<=Rows.uptoBulk z.1:=by
 match cs,hl with
 | [v],_ =>
  obtain⟨a,n,c,xs,rfl,h1,h2,h3,h4⟩:=CT (R:=ai) (fun _=>1) Tryz.underlying40 (show Tryz.prog.cellsOf 5=1 by kernel_rfl) om (fun n cs z hz _=>by
   obtain⟨x,hx⟩:=ev Tryz.underlying5 n cs z hz
   exact⟨x,hx,D8 _⟩) h
  rw[Bb]at h4
  exact⟨xs,⟨a,n,c,rfl,h1,h2,h3,pI h3 om⟩,om⟩
theorem qf {W:World}{held:Bool}{n:Nat}{v:Value}{z:DataW H × List MemPlace}(h:DataW.trod enc Tryz.prog W 0 (fun _=>true) held n 22 [v]=some z) :
  ∃(a:Option Addr) (k c:Nat) (l:List (List UInt8)),v=.slice a k c/\k<=c/\Sl 1 (aN W.heap.size) W a k l/\bO W.heap.size W a k/\jK l<=Rows.uptoBulk z.1:=by
 obtain⟨a,k,c,xs,rfl,h1,h2,h3,h4⟩:=CT (R:=aN W.heap.size) (fun b=>1+b.length) Tryz.underlying22 (show Tryz.prog.cellsOf 40=1 by kernel_rfl) om (fun n cs z hz hl=>CU n cs z hz hl) h
 exact⟨a,k,c,xs,rfl,h2,h3,pI h3 om,by unfold jK;omega⟩
theorem r8 (l:List (List UInt8)):l.length<=jK l/\∀b ∈ l,b.length<=jK l:=by
 unfold jK
 induction l with
 | nil=>exact⟨by simp,fun b h=>by cases h⟩
 | cons x l ih =>
  simp only[List.length_cons,List.map_cons,List.sum_cons]
  refine⟨om,fun b hb => ?_⟩
  rcases List.mem_cons.1 hb with rfl|hb
  ·omega
  ·have:=ih.2 b hb;omega
theorem xJ {W:World}{b0:Nat}{v:Value}{d:DataW H}{p:List MemPlace}(hv:Value.okWide Tryz.prog W .any b0 24 v)(h:DataW.Trod enc Tryz.prog W 0 (fun _=>true) true 24 v d p) :
  ∃(a:Option Addr) (n c:Nat) (j:am),v=.agg #[.slice a n c,.int .i64 j.many,.int .i64 j.synced]/\Sl 1 (aN W.heap.size) W a n j.recs/\n<=c/\bO W.heap.size W a n /\ -9223372036854775808<=j.many/\j.many<=9223372036854775807 /\ -9223372036854775808<=j.synced/\j.synced<=9223372036854775807/\jK j.recs<=Rows.uptoBulk d:=by
 obtain⟨v0,v1,v2,y0,y1,y2,n,rfl,rfl,_,h0,h1,h2⟩:=open_agg3 Tryz.underlying24 kr kr hv h
 obtain⟨a,k,c,l,rfl,g1,g2,g3,g4⟩:=qf h0
 obtain⟨i,hi,_,hb⟩:=DataW.trod_int Tryz.underlying3 h1
 obtain⟨s,hs,_,hb'⟩:=DataW.trod_int Tryz.underlying3 h2
 simp only[List.cons.injEq,and_true]at hi hs
 subst hi hs
 have e1 : -9223372036854775808<=i/\i<=9223372036854775807:=by simpa[Lit.wf,IntKind.min,IntKind.max,IntKind.signed,IntKind.bits] using hb
 have e2 : -9223372036854775808<=s/\s<=9223372036854775807:=by simpa[Lit.wf,IntKind.min,IntKind.max,IntKind.signed,IntKind.bits] using hb'
 refine⟨a,k,c,⟨l,i,s⟩,rfl,g2,g1,g3,e1.1,e1.2,e2.1,e2.2,?_⟩
 simp only[Rows.uptoBulk,Rows.uptoBulkAll]
 omega
theorem Co {W:World}{b0:Nat}{v:Value}{d:DataW H}{p:List MemPlace}(hv:Value.okWide Tryz.prog W .any b0 22 v)(h:DataW.Trod enc Tryz.prog W 0 (fun _=>true) true 22 v d p) :
  ∃(a:Option Addr) (k c:Nat) (l:List (List UInt8)),v=.slice a k c/\k<=c/\Sl 1 (aN W.heap.size) W a k l/\bO W.heap.size W a k/\jK l<=Rows.uptoBulk d:=by
 obtain⟨a,n,c,rfl⟩:=okWide_slice Tryz.underlying22 hv
 obtain⟨fuel,hf⟩:=h
 exact qf (v:=.slice a n c) hf
theorem B5 {W:World}{b0:Nat}{v:Value}{d:DataW H}{p:List MemPlace}(hv:Value.okWide Tryz.prog W .any b0 40 v)(h:DataW.Trod enc Tryz.prog W 0 (fun _=>true) true 40 v d p) :
  ∃(a:Option Addr) (n c:Nat) (bs:List UInt8),v=.slice a n c/\aN W.heap.size W [.slice a n c] bs:=by
 obtain⟨a,n,c,rfl⟩:=okWide_slice Tryz.underlying40 hv
 obtain⟨fuel,hf⟩:=h
 obtain⟨bs,hb,_⟩:=CU fuel [.slice a n c] _ hf rfl
 exact⟨a,n,c,bs,rfl,hb⟩
theorem Cp {i:Int}(h:(Lit.int .i64 i).wf=true) : -9223372036854775808<=i/\i<=9223372036854775807:=by simpa[Lit.wf,IntKind.min,IntKind.max,IntKind.signed,IntKind.bits] using h
end
section
variable {H : Type} {enc : TypeId × Value -> H}
theorem DY (l:List (DataW H))(x:DataW H)(h:x ∈ l):Rows.uptoBulk x<=Rows.uptoBulkAll l:=by
 induction l with
 | nil=>cases h
 | cons y l ih =>
  rw[Rows.uptoBulkAll]
  rcases List.mem_cons.1 h with rfl|h
  ·omega
  ·have:=ih h;omega
theorem C3 {α:Type}(M:α->Nat):∀(l:List α) (x:α),x ∈ l->M x<=(l.map M).sum
 | [],x,h=>by cases h
 | y::l,x,h=>by
  simp only[List.map_cons,List.sum_cons]
  rcases List.mem_cons.1 h with rfl|h
  ·omega
  ·have:=C3 M l x h;omega
theorem D9 {W:World}{held:Bool}(n:Nat)(cs:List Value)(z:DataW H × List MemPlace)(h:DataW.trod enc Tryz.prog W 0 (fun _=>true) held n 64 cs=some z)(hl:cs.length=2):∃x,ie W.heap.size W cs x/\x.2.length<=Rows.uptoBulk z.1:=by
 obtain⟨xs,m,q1,q2,q3,hlen,hf⟩:=DataW.trod_struct Tryz.underlying64 h
 have f0:=hf 0 _ rfl
 have f1:=hf 1 _ rfl
 match cs,hl with
 | [u,v],_ =>
  have k3:Tryz.prog.cellsOf 3=1:=kr
  have k35:Tryz.prog.cellsOf 40=1:=kr
  simp[k3,k35]at f0 f1
  have e0:xs[0]? = some (xs[0]'(by rw[hlen];decide)):=List.getElem?_eq_getElem _
  have e1:xs[1]? = some (xs[1]'(by rw[hlen];decide)):=List.getElem?_eq_getElem _
  rw[e0]at f0
  rw[e1]at f1
  obtain⟨i,hi,_⟩:=DataW.trod_int Tryz.underlying3 f0
  obtain⟨bs,⟨a,n,c,hv,h1,h2,h3,h4⟩,hb⟩:=CU _ _ _ f1 rfl
  simp only[List.cons.injEq,and_true]at hi hv
  refine⟨(i,bs),⟨a,n,c,by rw[hi,hv],h1,h2,h3,h4⟩,?_⟩
  show bs.length<=_
  have h0:(xs[1]'(by rw[hlen];decide)).1 ∈ xs.map (fun x=>x.1):=List.mem_map.2 ⟨_,List.getElem_mem _,rfl⟩
  rw[q2]
  exact Nat.le_trans (Nat.le_trans om hb) (Nat.le_trans (DY _ _ h0) (by simp[Rows.uptoBulk]))
theorem DE {W:World}{b0:Nat}{v:Value}{d:DataW H}{p:List MemPlace}(hv:Value.okWide Tryz.prog W .any b0 27 v)(h:DataW.Trod enc Tryz.prog W 0 (fun _=>true) true 27 v d p) :
  ∃a1 n1 c1 a2 n2 c2 k,v=.agg #[.slice a1 n1 c1,.slice a2 n2 c2,.int .i64 k.left,.bool k.stopped]/\bF W.heap.size W a1 n1 c1 a2 n2 c2 k/\((∀b ∈ k.secs,b.length<=Rows.uptoBulk d)/\∀x ∈ k.pend,x.2.length<=Rows.uptoBulk d):=by
 obtain⟨v0,v1,v2,v3,y0,y1,y2,y3,n,rfl,rfl,_,h0,h1,h2,h3⟩:=open_agg4 Tryz.underlying27 kr kr hv h
 obtain⟨a1,n1,c1,xs,rfl,s0,s1,s2,s3⟩:=CT (R:=aN W.heap.size) (fun b=>1+b.length) Tryz.underlying22 (show Tryz.prog.cellsOf 40=1 by kernel_rfl) om (fun n cs z hz hl=>CU n cs z hz hl) h0
 obtain⟨a2,n2,c2,ys,rfl,t0,t1,t2,t3⟩:=CT (R:=ie W.heap.size) (fun x=>x.2.length) Tryz.underlying25 (show Tryz.prog.cellsOf 64=2 by kernel_rfl) om (fun n cs z hz hl=>D9 n cs z hz hl) h1
 obtain⟨i,hi,_⟩:=DataW.trod_int Tryz.underlying3 h2
 obtain⟨b,hb,_⟩:=DataW.trod_bool Tryz.underlying4 h3
 simp only[List.cons.injEq,and_true]at hi hb
 subst hi hb
 refine⟨a1,n1,c1,a2,n2,c2,⟨xs,ys,i,b⟩,rfl,⟨s2,t2,s0,t0,s1,t1,pI s2 om,pI t2 om⟩,fun q hq => ?_,fun q hq => ?_⟩
 ·have h9:=C3 (fun b:List UInt8=>1+b.length) xs q hq
  simp only[Rows.uptoBulk,Rows.uptoBulkAll]at *
  omega
 ·have h9:=C3 (fun x:Int × List UInt8=>x.2.length) ys q hq
  simp only[Rows.uptoBulk,Rows.uptoBulkAll]at *
  omega
end
end Go.Proofs.YtmflnpdmlfmcpaaGreatDoor
