/- Joined texts. -/
import Derived.Test.YtmflnpdmlfmcpaaGreatDoorJp00
import Derived.OrdersHeld
namespace Go.Proofs.YtmflnpdmlfmcpaaGreatDoor
open Go.RowKit
section
variable {P : Program} {md : Region.Mode} {ops : Array Oper} {Q : Exit -> Act -> World -> Prop} {S : World -> Prop} {z : Nat}
def bT (P:Program)(md:Region.Mode)(ops:Array Oper)(Q:Exit->Act->World->Prop)(S:World->Prop)(z:Nat):Nat->Array Bool->Act->World->Prop
 | 0,l,a,w=>Region.ready md ops l=[]/\Q .normal a w
 | k+1,l,a,w=>(Region.ready md ops l=[]->Q .normal a w) /\
  ∀i ∈ Region.ready md ops l,wpOp P ops Q i (fun a' w'=>(i=z\/S w')/\bT P md ops Q S z k (l.setIfInBounds i true) a' w') a w
theorem mC : ∀(k:Nat) (l:Array Bool) (a:Act) (w:World),bT P md ops Q S z k l a w->wpAny P md ops Q k l a w
 | 0,_,_,_,h=>h
 | k+1,_,_,_,h=>⟨h.1,fun i hi=>wpOp_mono (fun a' w' h'=>mC k _ a' w' h'.2) (h.2 i hi)⟩
def gC (md:Region.Mode)(ops:Array Oper)(z i:Nat):Bool:=((ops[z]?).map fun o=>o.after.any fun e=>Region.binds md e && e.on == i).getD false
theorem vO {i:Nat}{l:Array Bool}(hw:gC md ops z i=true)(hi:i ∈ Region.ready md ops l):z ∉ Region.ready md ops l:=by
 intro hz
 obtain⟨_,oz,hoz,hall⟩:=mem_ready.1 hz
 have hl0:=(mem_ready.1 hi).1
 simp only[gC,hoz,Option.map_some,Option.getD_some,Array.any_eq_true,Bool.and_eq_true,beq_iff_eq]at hw
 obtain⟨q,hq,hb,he⟩:=hw
 have h1:=hall _ (Array.getElem_mem hq) hb
 rw[he]at h1
 by_cases hlt:i<l.size
 ·simp[hlt]at hl0 h1
  rw[hl0]at h1
  cases h1
 ·simp[Array.getElem?_eq_none (Nat.le_of_not_lt hlt)]at h1
theorem tZ {i:Nat}{o:Oper}{v:Value}(hi:ops[i]? = some o)(hns:∀(j:Nat) (o:Oper) cs b,ops[j]? = some o->o.op ≠ .select cs b)(hQ:∀c a w,Q (.panic c) (a.put o.dst v) w->Q (.panic c) a w)
  (hw:gC md ops z i=true) (k:Nat) :
  ∀(l:Array Bool) (a:Act) (w:World),(∀j oj,ops[j]? = some oj->j≠i->l.getD j true=false->(∀e ∈ oj.after,Region.binds md e=true->e.on≠i)->o.apart ops oj=true) ->
   i ∈ Region.ready md ops l->YieldsIf P ops S o v a->S w->bT P md ops Q S z k (l.setIfInBounds i true) (a.put o.dst v) w->bT P md ops Q S z (k+1) l a w:=by
 induction k with
 | zero =>
  intro l a w _ hr hy hS h
  refine⟨fun h0=>(by rw[h0]at hr;cases hr),fun j hj => ?_⟩
  by_cases hji:j=i
  ·subst hji
   exact hy.wpOp hi hS ⟨.inr hS,h⟩
  ·have h2:=ready_mono hj hji
   rw[h.1]at h2
   cases h2
 | succ k ih =>
  intro l a w hap hr hy hS h
  refine⟨fun h0=>(by rw[h0]at hr;cases hr),fun j hj => ?_⟩
  by_cases hji:j=i
  ·subst hji
   exact hy.wpOp hi hS ⟨.inr hS,h⟩
  ·have hjz:j≠z:=by
    rintro rfl
    exact vO hw hr hj
   obtain⟨hl,oj,hoj,hall⟩:=mem_ready.1 hj
   have hl0:=(mem_ready.1 hr).1
   have hno:∀e ∈ oj.after,Region.binds md e=true->e.on≠i:=by
    rintro e he hb rfl
    have h1:=hall e he hb
    by_cases hlt:e.on<l.size
    ·simp[hlt]at hl0 h1
     rw[hl0]at h1
     cases h1
    ·simp[Array.getElem?_eq_none (Nat.le_of_not_lt hlt)]at h1
   refine wpOp_mono ?_ (wpOp_putIf hoj (hap j oj hoj hji hl hno) (fun cs b=>hns i o cs b hi) (fun cs b=>hns j oj cs b hoj) hQ hy (h.2 j (ready_mono hj hji)))
   rintro a' w' ⟨hy',hT,hk⟩
   have hS':S w':=hT.resolve_left hjz
   rw[Array.setIfInBounds_comm _ _ (Ne.symm hji)]at hk
   refine⟨.inr hS',ih _ a' w' ?_ (ready_mono hr (Ne.symm hji)) hy' hS' hk⟩
   intro q oq hoq hqi hlq hnq
   refine hap q oq hoq hqi ?_ hnq
   by_cases hjq:j=q
   ·subst hjq;exact hl
   ·rw[getD_set_ne true hjq]at hlq;exact hlq
theorem aM (i:Nat){o:Oper}(v:Value){k:Nat}{l:Array Bool}{a:Act}{w:World}(hi:ops[i]? = some o)(hs:Region.noSelect ops=true)(hf:Region.free md ops l i=true)(hr:(Region.ready md ops l).contains i=true)
  (hw:gC md ops z i=true) (hQ:∀c a w,Q (.panic c) (a.put o.dst v) w->Q (.panic c) a w) (hg:o.guard=none) (hy:∀W,S W->(execOp a.eval o).run P W=.ok (.value v) W) (hS:S w)
  (h:bT P md ops Q S z k (l.setIfInBounds i true) (a.put o.dst v) w):bT P md ops Q S z (k+1) l a w:=
 tZ hi (Region.noSelect_spec hs) hQ hw k l a w (Region.free_spec hi hf) (by simpa using hr) (.inl ⟨by simp[Region.wanted,hg],hy⟩) hS h
theorem aC (i:Nat){o:Oper}{k:Nat}{l:Array Bool}{a:Act}{w:World}(hr:Region.ready md ops l=[i])(hi:ops[i]? = some o)(hg:o.guard=none)
  (h:o.wp P a w (fun a' w'=>(i=z\/S w')/\bT P md ops Q S z k (l.setIfInBounds i true) a' w') Q):bT P md ops Q S z (k+1) l a w:=by
 refine⟨fun h0=>(by rw[hr]at h0;cases h0),fun j hj => ?_⟩
 rw[hr]at hj
 obtain rfl:j=i:=by simpa using hj
 unfold wpOp
 simp only[hi]
 rw[if_pos (by simp[Region.wanted,hg])]
 exact .inl h
theorem cV {k:Nat}{l:Array Bool}{a:Act}{w:World}(hr:Region.ready md ops l=[])(h:Q .normal a w):bT P md ops Q S z k l a w:=by
 cases k with
 | zero=>exact⟨hr,h⟩
 | succ k=>exact⟨fun _=>h,by rw[hr];simp⟩
theorem bZ (S:World->Prop)(z:Nat){id:Nat}{a:Act}{w:World}(hm:P.follows .mixedOrders=true)
  (h:bT P .any ops Q S z ops.size (Array.replicate ops.size false) a { w with drawn:=w.drawn+1 }):(Code.region id ops true).wp P Q a w:=
 wp_region_any hm (mC _ _ _ _ h)
end
section
variable {P : Program} {md : Region.Mode} {ops : Array Oper} {Q : Exit -> Act -> World -> Prop} {S : World -> Prop} {z : Nat} {o : Oper} {k : Nat} {l : Array Bool} {a : Act} {w : World}
theorem eL (i:Nat)(v:Value)(hi:ops[i]? = some o)(hy:∀W,S W->(execOp a.eval o).run P W=.ok (.value v) W)(hS:S w)(h:bT P md ops Q S z k (l.setIfInBounds i true) (a.put o.dst v) w)(hs:Region.noSelect ops=true:=by kernel_rfl)(hf:Region.free md ops l i=true:=by kernel_rfl)
  (hr:(Region.ready md ops l).contains i=true:=by kernel_rfl) (hw:gC md ops z i=true:=by kernel_rfl) (hQ:∀c a w,Q (.panic c) (a.put o.dst v) w->Q (.panic c) a w:=by intro _ _ _ h;exact h) (hg:o.guard=none:=by rfl):bT P md ops Q S z (k+1) l a w:=aM i v hi hs hf hr hw hQ hg hy hS h
theorem fp (i:Nat)(v:Value)(hi:ops[i]? = some o)(hS:S w)(h:bT P md ops Q S z k (l.setIfInBounds i true) (a.put o.dst v) w)(hs:Region.noSelect ops=true:=by kernel_rfl)(hf:Region.free md ops l i=true:=by kernel_rfl)
  (hr:(Region.ready md ops l).contains i=true:=by kernel_rfl) (hw:gC md ops z i=true:=by kernel_rfl) (hQ:∀c a w,Q (.panic c) (a.put o.dst v) w->Q (.panic c) a w:=by intro _ _ _ h;exact h) (hg:o.guard=none:=by rfl) (hy:∀W,(execOp a.eval o).run P W=.ok (.value v) W:=by intro W;kernel_rfl):bT P md ops Q S z (k+1) l a w:=aM i v hi hs hf hr hw hQ hg (fun W _=>hy W) hS h
end
section
variable {P : Program} {md : Region.Mode} {ops : Array Oper} {Q : Exit -> Act -> World -> Prop} {S : World -> Prop} {D : List Nat}
def dH (P:Program)(md:Region.Mode)(ops:Array Oper)(Q:Exit->Act->World->Prop)(S:World->Prop)(D:List Nat):Nat->Array Bool->Act->World->Prop
 | 0,l,a,w=>Region.ready md ops l=[]/\Q .normal a w
 | k+1,l,a,w=>(Region.ready md ops l=[]->Q .normal a w) /\
  ∀i ∈ Region.ready md ops l,wpOp P ops Q i (fun a' w'=>(D.contains i=true\/S w')/\dH P md ops Q S D k (l.setIfInBounds i true) a' w') a w
theorem mD : ∀(k:Nat) (l:Array Bool) (a:Act) (w:World),dH P md ops Q S D k l a w->wpAny P md ops Q k l a w
 | 0,_,_,_,h=>h
 | k+1,_,_,_,h=>⟨h.1,fun i hi=>wpOp_mono (fun a' w' h'=>mD k _ a' w' h'.2) (h.2 i hi)⟩
def nS (md:Region.Mode)(ops:Array Oper)(i:Nat)(C:List Nat):Bool:=C.all fun j=>(i::C).any fun q=>gC md ops j q
def i5 (l:Array Bool)(C:List Nat):Bool:=C.all fun j => !l.getD j true
theorem nT {j q:Nat}{l:Array Bool}(hw:gC md ops j q=true)(hq:l.getD q true=false):j ∉ Region.ready md ops l:=by
 intro hz
 obtain⟨_,oz,hoz,hall⟩:=mem_ready.1 hz
 simp only[gC,hoz,Option.map_some,Option.getD_some,Array.any_eq_true,Bool.and_eq_true,beq_iff_eq]at hw
 obtain⟨t,ht,hb,he⟩:=hw
 have h1:=hall _ (Array.getElem_mem ht) hb
 rw[he]at h1
 by_cases hlt:q<l.size
 ·simp[hlt]at hq h1
  rw[hq]at h1
  cases h1
 ·simp[Array.getElem?_eq_none (Nat.le_of_not_lt hlt)]at h1
theorem nf {i j:Nat}{C:List Nat}{l:Array Bool}(hb:nS md ops i C=true)(hu:i5 l C=true)(hi:l.getD i true=false)(hj:j ∈ C):j ∉ Region.ready md ops l:=by
 simp only[nS,List.all_eq_true,List.any_eq_true]at hb
 simp only[i5,List.all_eq_true,Bool.not_eq_true']at hu
 obtain⟨q,hq,hw⟩:=hb j hj
 refine nT hw ?_
 rcases List.mem_cons.1 hq with rfl|hq
 ·exact hi
 ·exact hu q hq
theorem DC {j:Nat}{C:List Nat}{l:Array Bool}(hu:i5 l C=true)(hj:j ∉ C):i5 (l.setIfInBounds j true) C=true:=by
 simp only[i5,List.all_eq_true,Bool.not_eq_true']at hu ⊢
 intro q hq
 rw[getD_set_ne true (by rintro rfl;exact hj hq)]
 exact hu q hq
theorem ye {j q:Nat}{l:Array Bool}(h:l.getD q true=true):(l.setIfInBounds j true).getD q true=true:=by
 by_cases hjq:j=q
 ·subst hjq
  by_cases hlt:j<l.size
  ·simp[hlt]
  ·simp
 ·rw[getD_set_ne true hjq];exact h
theorem t6 {i:Nat}{o:Oper}{v:Value}{C:List Nat}(hi:ops[i]? = some o)(hns:∀(j:Nat) (o:Oper) cs b,ops[j]? = some o->o.op ≠ .select cs b)(hQ:∀c a w,Q (.panic c) (a.put o.dst v) w->Q (.panic c) a w)
  (hb:nS md ops i C=true) (k:Nat) :
  ∀(l:Array Bool) (a:Act) (w:World),(∀j ∈ D,j ∈ C\/l.getD j true=true)->i5 l C=true->(∀j oj,ops[j]? = some oj->j≠i->l.getD j true=false->(∀e ∈ oj.after,Region.binds md e=true->e.on≠i)->o.apart ops oj=true) ->
   i ∈ Region.ready md ops l->YieldsIf P ops S o v a->S w->dH P md ops Q S D k (l.setIfInBounds i true) (a.put o.dst v) w->dH P md ops Q S D (k+1) l a w:=by
 induction k with
 | zero =>
  intro l a w _ _ _ hr hy hS h
  refine⟨fun h0=>(by rw[h0]at hr;cases hr),fun j hj => ?_⟩
  by_cases hji:j=i
  ·subst hji
   exact hy.wpOp hi hS ⟨.inr hS,h⟩
  ·have h2:=ready_mono hj hji
   rw[h.1]at h2
   cases h2
 | succ k ih =>
  intro l a w hDC hu hap hr hy hS h
  refine⟨fun h0=>(by rw[h0]at hr;cases hr),fun j hj => ?_⟩
  by_cases hji:j=i
  ·subst hji
   exact hy.wpOp hi hS ⟨.inr hS,h⟩
  ·have hl0:=(mem_ready.1 hr).1
   have hjC:j ∉ C:=fun hc=>nf hb hu hl0 hc hj
   have hjD:D.contains j=false:=by
    cases hc:D.contains j with
    | false=>rfl
    | true =>
     rcases hDC j (by simpa using hc) with h1|h1
     ·exact absurd h1 hjC
     ·rw[(mem_ready.1 hj).1]at h1;cases h1
   obtain⟨hl,oj,hoj,hall⟩:=mem_ready.1 hj
   have hno:∀e ∈ oj.after,Region.binds md e=true->e.on≠i:=by
    rintro e he hbd rfl
    have h1:=hall e he hbd
    by_cases hlt:e.on<l.size
    ·simp[hlt]at hl0 h1
     rw[hl0]at h1
     cases h1
    ·simp[Array.getElem?_eq_none (Nat.le_of_not_lt hlt)]at h1
   refine wpOp_mono ?_ (wpOp_putIf hoj (hap j oj hoj hji hl hno) (fun cs b=>hns i o cs b hi) (fun cs b=>hns j oj cs b hoj) hQ hy (h.2 j (ready_mono hj hji)))
   rintro a' w' ⟨hy',hT,hk⟩
   have hS':S w':=hT.resolve_left (by rw[hjD];simp)
   rw[Array.setIfInBounds_comm _ _ (Ne.symm hji)]at hk
   refine⟨.inr hS',ih _ a' w' (fun q hq=>(hDC q hq).imp id ye) (DC hu hjC) ?_ (ready_mono hr (Ne.symm hji)) hy' hS' hk⟩
   intro q oq hoq hqi hlq hnq
   refine hap q oq hoq hqi ?_ hnq
   by_cases hjq:j=q
   ·subst hjq;exact hl
   ·rw[getD_set_ne true hjq]at hlq;exact hlq
theorem cR (i:Nat)(C:List Nat){o:Oper}(v:Value){k:Nat}{l:Array Bool}{a:Act}{w:World}(hi:ops[i]? = some o)(hs:Region.noSelect ops=true)(hf:Region.free md ops l i=true)(hr:(Region.ready md ops l).contains i=true)
  (hb:(D.all (fun j=>C.contains j || l.getD j true) && nS md ops i C && i5 l C)=true) (hQ:∀c a w,Q (.panic c) (a.put o.dst v) w->Q (.panic c) a w) (hg:o.guard=none) (hy:∀W,S W->(execOp a.eval o).run P W=.ok (.value v) W) (hS:S w)
  (h:dH P md ops Q S D k (l.setIfInBounds i true) (a.put o.dst v) w):dH P md ops Q S D (k+1) l a w:=by
 simp only[Bool.and_eq_true,List.all_eq_true]at hb
 obtain⟨⟨h1,h2⟩,h3⟩:=hb
 exact t6 hi (Region.noSelect_spec hs) hQ h2 k l a w (fun j hj=>by simpa using h1 j hj) h3 (Region.free_spec hi hf) (by simpa using hr) (.inl ⟨by simp[Region.wanted,hg],hy⟩) hS h
theorem nU {i:Nat}{o:Oper}{v:Value}(hi:ops[i]? = some o)(hns:∀(j:Nat) (o:Oper) cs b,ops[j]? = some o->o.op ≠ .select cs b)(hQ:∀c a w,Q (.panic c) (a.put o.dst v) w->Q (.panic c) a w)
  (hD:D.contains i=true) (k:Nat) :
  ∀(l:Array Bool) (a:Act) (w:World),(∀j oj,ops[j]? = some oj->j≠i->l.getD j true=false->(∀e ∈ oj.after,Region.binds md e=true->e.on≠i)->o.apart ops oj=true) ->
   i ∈ Region.ready md ops l->YieldsIf P ops (fun _=>True) o v a->dH P md ops Q S D k (l.setIfInBounds i true) (a.put o.dst v) w->dH P md ops Q S D (k+1) l a w:=by
 induction k with
 | zero =>
  intro l a w _ hr hy h
  refine⟨fun h0=>(by rw[h0]at hr;cases hr),fun j hj => ?_⟩
  by_cases hji:j=i
  ·subst hji
   exact hy.wpOp hi trivial ⟨.inl hD,h⟩
  ·have h2:=ready_mono hj hji
   rw[h.1]at h2
   cases h2
 | succ k ih =>
  intro l a w hap hr hy h
  refine⟨fun h0=>(by rw[h0]at hr;cases hr),fun j hj => ?_⟩
  by_cases hji:j=i
  ·subst hji
   exact hy.wpOp hi trivial ⟨.inl hD,h⟩
  ·have hl0:=(mem_ready.1 hr).1
   obtain⟨hl,oj,hoj,hall⟩:=mem_ready.1 hj
   have hno:∀e ∈ oj.after,Region.binds md e=true->e.on≠i:=by
    rintro e he hbd rfl
    have h1:=hall e he hbd
    by_cases hlt:e.on<l.size
    ·simp[hlt]at hl0 h1
     rw[hl0]at h1
     cases h1
    ·simp[Array.getElem?_eq_none (Nat.le_of_not_lt hlt)]at h1
   refine wpOp_mono ?_ (wpOp_putIf hoj (hap j oj hoj hji hl hno) (fun cs b=>hns i o cs b hi) (fun cs b=>hns j oj cs b hoj) hQ hy (h.2 j (ready_mono hj hji)))
   rintro a' w' ⟨hy',hT,hk⟩
   rw[Array.setIfInBounds_comm _ _ (Ne.symm hji)]at hk
   refine⟨hT,ih _ a' w' ?_ (ready_mono hr (Ne.symm hji)) hy' hk⟩
   intro q oq hoq hqi hlq hnq
   refine hap q oq hoq hqi ?_ hnq
   by_cases hjq:j=q
   ·subst hjq;exact hl
   ·rw[getD_set_ne true hjq]at hlq;exact hlq
theorem lw (i:Nat){o:Oper}(v:Value){k:Nat}{l:Array Bool}{a:Act}{w:World}(hi:ops[i]? = some o)(hs:Region.noSelect ops=true)(hf:Region.free md ops l i=true)(hr:(Region.ready md ops l).contains i=true)
  (hD:D.contains i=true) (hQ:∀c a w,Q (.panic c) (a.put o.dst v) w->Q (.panic c) a w) (hg:o.guard=none) (hy:∀W,(execOp a.eval o).run P W=.ok (.value v) W)
  (h:dH P md ops Q S D k (l.setIfInBounds i true) (a.put o.dst v) w):dH P md ops Q S D (k+1) l a w:=
 nU hi (Region.noSelect_spec hs) hQ hD k l a w (Region.free_spec hi hf) (by simpa using hr) (.inl ⟨by simp[Region.wanted,hg],fun W _=>hy W⟩) h
theorem df (i:Nat){o:Oper}{k:Nat}{l:Array Bool}{a:Act}{w:World}(hr:Region.ready md ops l=[i])(hi:ops[i]? = some o)(hg:o.guard=none)
  (h:o.wp P a w (fun a' w'=>(D.contains i=true\/S w')/\dH P md ops Q S D k (l.setIfInBounds i true) a' w') Q):dH P md ops Q S D (k+1) l a w:=by
 refine⟨fun h0=>(by rw[hr]at h0;cases h0),fun j hj => ?_⟩
 rw[hr]at hj
 obtain rfl:j=i:=by simpa using hj
 unfold wpOp
 simp only[hi]
 rw[if_pos (by simp[Region.wanted,hg])]
 exact .inl h
theorem jx {k:Nat}{l:Array Bool}{a:Act}{w:World}(hr:Region.ready md ops l=[])(h:Q .normal a w):dH P md ops Q S D k l a w:=by
 cases k with
 | zero=>exact⟨hr,h⟩
 | succ k=>exact⟨fun _=>h,by rw[hr];simp⟩
theorem fQ (S:World->Prop)(D:List Nat){id:Nat}{a:Act}{w:World}(hm:P.follows .mixedOrders=true)
  (h:dH P .any ops Q S D ops.size (Array.replicate ops.size false) a { w with drawn:=w.drawn+1 }):(Code.region id ops true).wp P Q a w:=
 wp_region_any hm (mD _ _ _ _ h)
end
end Go.Proofs.YtmflnpdmlfmcpaaGreatDoor
