/- Joined texts. -/
import Derived.Test.YtmflnpdmlfmcpaaGreatDoorJp13
set_option maxRecDepth 100000
set_option maxHeartbeats 4000000
namespace Go.Proofs.YtmflnpdmlfmcpaaGreatDoor.Dr
open Go.RowKit
structure aR (w:World) where
 wd:World
 below:Below w.heap.size w wd
instance (w:World):Nonempty (aR w):=⟨⟨w,Below.refl _ _⟩⟩
theorem eu {P:Program}{id:Nat}{Q:Exit->Act->World->Prop}{a:Act}{w:World}{l:List Oper}(hm:P.follows .mixedOrders=true)(hB:Region.lexB .any l.toArray=true)
  (h:wpQuiet P l.toArray (fun w'=>∃z:aR w,w'=z.wd) (fun a'=>∀w',(∃z:aR w,w'=z.wd)->Q .normal a' w') l a):(Code.region id l.toArray true).wp P Q a w:=
 wp_region_quiet (C:=fun w'=>∃z:aR w,w'=z.wd) hm hB ⟨⟨_,(Below.refl _ w).drew⟩,rfl⟩ (by simpa using h)
theorem dC {P:Program}{f:FuncId}{args:Array Value}{w:World}{z:aR w}{v:Value}(h:Calls P f args z.wd fun e w'=>e=.returned v/\Below z.wd.heap.size z.wd w') :
  Calls P f args z.wd fun e w''=>e=.returned v/\∃y:aR w,w''=y.wd:=h.mono fun _ w' ⟨he,hb⟩=>⟨he,⟨w',z.below.trans (hb.mono z.below.size)⟩,rfl⟩
theorem ca {P:Program}{f:FuncId}{args:Array Value}{w:World}{z:aR w}{v:Value}(h:Calls P f args z.wd fun e w'=>e=.returned v/\z.wd=w') :
  Calls P f args z.wd fun e w''=>e=.returned v/\∃y:aR w,w''=y.wd:=h.mono fun _ _ ⟨he,hb⟩=>⟨he,z,hb.symm⟩
section
variable {P : Program} {ops : Array Oper} {w : World} {K : Act -> Prop} {a : Act} {o : Oper} {rest : List Oper}
theorem nv (v:Value)(hw:Region.wanted o (yielded ops a.tmps)=true)(hr:∀z:aR w,(execOp a.eval o).run P z.wd=.ok (.value v) z.wd)(h:wpQuiet P ops (fun w'=>∃z:aR w,w'=z.wd) K rest (a.put o.dst v)):wpQuiet P ops (fun w'=>∃z:aR w,w'=z.wd) K (o::rest) a:=by
 refine wpQuiet_step fun K' hK => ?_
 rw[if_pos hw]
 refine⟨v,fun W hW => ?_,hK _ h⟩
 unfold Oper.quietAt
 obtain⟨z,rfl⟩:=hW
 rw[hr z]
 exact⟨rfl,rfl⟩
theorem kS (v:Value)(f:FuncId)(args:Array Value)(hw:Region.wanted o (yielded ops a.tmps)=true)(hr:∀W,(execOp a.eval o).run P W=.ok (.enter f args) W)
  (hc:∀z:aR w,Calls P f args z.wd fun e W'=>e=.returned v/\Below z.wd.heap.size z.wd W') (h:wpQuiet P ops (fun w'=>∃z:aR w,w'=z.wd) K rest (a.put o.dst v)):wpQuiet P ops (fun w'=>∃z:aR w,w'=z.wd) K (o::rest) a:=by
 refine wpQuiet_step fun K' hK => ?_
 rw[if_pos hw]
 refine⟨v,fun W hW => ?_,hK _ h⟩
 unfold Oper.quietAt
 obtain⟨z,rfl⟩:=hW
 rw[hr z.wd]
 exact⟨rfl,dC (hc z)⟩
theorem yN (hw:Region.wanted o (yielded ops a.tmps)=false)(h:wpQuiet P ops (fun w'=>∃z:aR w,w'=z.wd) K rest (a.put o.dst undef)):wpQuiet P ops (fun w'=>∃z:aR w,w'=z.wd) K (o::rest) a:=by
 refine wpQuiet_step fun K' hK => ?_
 rw[if_neg (by rw[hw];simp)]
 exact hK _ h
end
section
variable {P : Program} {ops : Array Oper} {w : World} {K : Act -> Prop} {rest : List Oper} {o : Oper} {a : Act}
theorem fW (v:Value)(hr:∀z:aR w,(execOp a.eval o).run P z.wd=.ok (.value v) z.wd)(h:wpQuiet P ops (fun w'=>∃z:aR w,w'=z.wd) K rest (a.put o.dst v))(hw:Region.wanted o (yielded ops a.tmps)=true:=by kernel_rfl):wpQuiet P ops (fun w'=>∃z:aR w,w'=z.wd) K (o::rest) a:=nv v hw hr h
theorem eQ (v:Value)(h:wpQuiet P ops (fun w'=>∃z:aR w,w'=z.wd) K rest (a.put o.dst v))(hw:Region.wanted o (yielded ops a.tmps)=true:=by kernel_rfl)(hr:∀z:aR w,(execOp a.eval o).run P z.wd=.ok (.value v) z.wd:=by intro z;kernel_rfl):wpQuiet P ops (fun w'=>∃z:aR w,w'=z.wd) K (o::rest) a:=nv v hw hr h
end
section
variable {P : Program} {md : Region.Mode} {ops : Array Oper} {Q : Exit -> Act -> World -> Prop} {S : World -> Prop}
def aW (P:Program)(md:Region.Mode)(ops:Array Oper)(Q:Exit->Act->World->Prop)(S:World->Prop):Nat->Array Bool->Act->World->Prop
 | 0,l,a,w=>Region.ready md ops l=[]/\Q .normal a w
 | k+1,l,a,w=>(Region.ready md ops l=[]->Q .normal a w) /\
  ∀i ∈ Region.ready md ops l,wpOp P ops Q i (fun a' w'=>S w'/\aW P md ops Q S k (l.setIfInBounds i true) a' w') a w
theorem mP : ∀(k:Nat) (l:Array Bool) (a:Act) (w:World),aW P md ops Q S k l a w->wpAny P md ops Q k l a w
 | 0,_,_,_,h=>h
 | k+1,_,_,_,h=>⟨h.1,fun i hi=>wpOp_mono (fun a' w' h'=>mP k _ a' w' h'.2) (h.2 i hi)⟩
theorem ou {i:Nat}{o:Oper}{v:Value}(hi:ops[i]? = some o)(hns:∀(j:Nat) (o:Oper) cs b,ops[j]? = some o->o.op ≠ .select cs b)(hQ:∀c a w,Q (.panic c) (a.put o.dst v) w->Q (.panic c) a w)(k:Nat) :
  ∀(l:Array Bool) (a:Act) (w:World),(∀j oj,ops[j]? = some oj->j≠i->l.getD j true=false->(∀e ∈ oj.after,Region.binds md e=true->e.on≠i)->o.apart ops oj=true) ->
   i ∈ Region.ready md ops l->YieldsIf P ops S o v a->S w->aW P md ops Q S k (l.setIfInBounds i true) (a.put o.dst v) w->aW P md ops Q S (k+1) l a w:=by
 induction k with
 | zero =>
  intro l a w _ hr hy hS h
  refine⟨fun h0=>(by rw[h0]at hr;cases hr),fun j hj => ?_⟩
  by_cases hji:j=i
  ·subst hji
   exact hy.wpOp hi hS ⟨hS,h⟩
  ·have h2:=ready_mono hj hji
   rw[h.1]at h2
   cases h2
 | succ k ih =>
  intro l a w hap hr hy hS h
  refine⟨fun h0=>(by rw[h0]at hr;cases hr),fun j hj => ?_⟩
  by_cases hji:j=i
  ·subst hji
   exact hy.wpOp hi hS ⟨hS,h⟩
  ·obtain⟨hl,oj,hoj,hall⟩:=mem_ready.1 hj
   have hl0:=(mem_ready.1 hr).1
   have hno:∀e ∈ oj.after,Region.binds md e=true->e.on≠i:=by
    rintro e he hb rfl
    have h1:=hall e he hb
    by_cases hlt:e.on<l.size
    ·simp[hlt]at hl0 h1
     rw[hl0]at h1
     cases h1
    ·simp[Array.getElem?_eq_none (Nat.le_of_not_lt hlt)]at h1
   refine wpOp_mono ?_ (wpOp_putIf hoj (hap j oj hoj hji hl hno) (fun cs b=>hns i o cs b hi) (fun cs b=>hns j oj cs b hoj) hQ hy (h.2 j (ready_mono hj hji)))
   rintro a' w' ⟨hy',hS',hk⟩
   rw[Array.setIfInBounds_comm _ _ (Ne.symm hji)]at hk
   refine⟨hS',ih _ a' w' ?_ (ready_mono hr (Ne.symm hji)) hy' hS' hk⟩
   intro q oq hoq hqi hlq hnq
   refine hap q oq hoq hqi ?_ hnq
   by_cases hjq:j=q
   ·subst hjq;exact hl
   ·rw[getD_set_ne true hjq]at hlq;exact hlq
theorem pS (i d:Nat){o:Oper}(v:Value){k:Nat}{l:Array Bool}{a:Act}{w:World}(hi:ops[i]? = some o)(hs:Region.noSelect ops=true)(hf:Region.free md ops l i=true)(hr:(Region.ready md ops l).contains i=true)
  (hQ:∀c a w,Q (.panic c) (a.put o.dst v) w->Q (.panic c) a w) (hw:Region.wanted o (yielded ops a.tmps)=true) (hd:(ops[i]?).map (·.dst)=some (some d)) (hy:∀W,S W->(execOp a.eval o).run P W=.ok (.value v) W) (hS:S w)
  (h:aW P md ops Q S k (l.setIfInBounds i true) (a.put (some d) v) w):aW P md ops Q S (k+1) l a w:=by
 have hd':o.dst=some d:=by rw[hi]at hd;simpa using hd
 rw[<-hd']at h
 exact ou hi (Region.noSelect_spec hs) hQ k l a w (Region.free_spec hi hf) (by simpa using hr) (.inl ⟨hw,hy⟩) hS h
theorem wI (i d:Nat){o:Oper}{k:Nat}{l:Array Bool}{a:Act}{w:World}(hi:ops[i]? = some o)(hs:Region.noSelect ops=true)(hf:Region.free md ops l i=true)(hr:(Region.ready md ops l).contains i=true)
  (hQ:∀c a w,Q (.panic c) (a.put o.dst undef) w->Q (.panic c) a w) (hw:Region.wanted o (yielded ops a.tmps)=false) (hd:(ops[i]?).map (·.dst)=some (some d)) (hS:S w)
  (h:aW P md ops Q S k (l.setIfInBounds i true) (a.put (some d) undef) w):aW P md ops Q S (k+1) l a w:=by
 have hd':o.dst=some d:=by rw[hi]at hd;simpa using hd
 rw[<-hd']at h
 exact ou hi (Region.noSelect_spec hs) hQ k l a w (Region.free_spec hi hf) (by simpa using hr) (.inr ⟨hw,rfl⟩) hS h
theorem aU (i:Nat){o:Oper}{k:Nat}{l:Array Bool}{a:Act}{w:World}(hr:Region.ready md ops l=[i])(hi:ops[i]? = some o)(hw:Region.wanted o (yielded ops a.tmps)=true)
  (h:o.wp P a w (fun a' w'=>S w'/\aW P md ops Q S k (l.setIfInBounds i true) a' w') Q):aW P md ops Q S (k+1) l a w:=by
 refine⟨fun h0=>(by rw[hr]at h0;cases h0),fun j hj => ?_⟩
 rw[hr]at hj
 obtain rfl:j=i:=by simpa using hj
 unfold wpOp
 simp only[hi]
 rw[if_pos hw]
 exact .inl h
theorem bp {k:Nat}{l:Array Bool}{a:Act}{w:World}(hr:Region.ready md ops l=[])(h:Q .normal a w):aW P md ops Q S k l a w:=by
 cases k with
 | zero=>exact⟨hr,h⟩
 | succ k=>exact⟨fun _=>h,by rw[hr];simp⟩
theorem bA (S:World->Prop){id:Nat}{a:Act}{w:World}(hm:P.follows .mixedOrders=true)
  (h:aW P .any ops Q S ops.size (Array.replicate ops.size false) a { w with drawn:=w.drawn+1 }):(Code.region id ops true).wp P Q a w:=
 wp_region_any hm (mP _ _ _ _ h)
theorem dk (i d:Nat){o:Oper}(v:Value){k:Nat}{l:Array Bool}{a:Act}{w:World}(f:FuncId)(args:Array Value)(hr:Region.ready md ops l=[i])(hi:ops[i]? = some o)(hw:Region.wanted o (yielded ops a.tmps)=true)
  (hd:(ops[i]?).map (·.dst)=some (some d)) (hx:(execOp a.eval o).run P w=.ok (.enter f args) w) (hc:Calls P f args w fun e w'=>e=.returned v/\Below w.heap.size w w')
  (h:∀w',Below w.heap.size w w'->S w'/\aW P md ops Q S k (l.setIfInBounds i true) (a.put (some d) v) w'):aW P md ops Q S (k+1) l a w:=by
 have hd':o.dst=some d:=by rw[hi]at hd;simpa using hd
 rw[<-hd']at h
 refine aU i hr hi hw ?_
 unfold Oper.wp
 rw[hx]
 exact hc.mono fun e w' ⟨he,hb⟩=>by subst he;exact h w' hb
theorem jF (i d:Nat){o:Oper}{k:Nat}{l:Array Bool}{a:Act}{w:World}(R:Value->World->Prop)(hr:Region.ready md ops l=[i])(hi:ops[i]? = some o)(hw:Region.wanted o (yielded ops a.tmps)=true)
  (hd:(ops[i]?).map (·.dst)=some (some d)) (hrun:∀(K:Act->World->Prop) (Q:Exit->Act->World->Prop),(∀v w',R v w'->K (a.put o.dst v) w')->o.wp P a w K Q)
  (h:∀v w',R v w'->S w'/\aW P md ops Q S k (l.setIfInBounds i true) (a.put (some d) v) w'):aW P md ops Q S (k+1) l a w:=by
 have hd':o.dst=some d:=by rw[hi]at hd;simpa using hd
 rw[<-hd']at h
 exact aU i hr hi hw (hrun _ _ h)
end
section
variable {P : Program} {md : Region.Mode} {ops : Array Oper} {Q : Exit -> Act -> World -> Prop} {S : World -> Prop} {i d : Nat} {o : Oper} {k : Nat} {l : Array Bool} {a : Act} {w : World}
theorem aZ (i d:Nat)(v:Value)(hi:ops[i]? = some o)(hy:∀W,S W->(execOp a.eval o).run P W=.ok (.value v) W)(hS:S w)(h:aW P md ops Q S k (l.setIfInBounds i true) (a.put (some d) v) w)(hs:Region.noSelect ops=true:=by kernel_rfl)(hf:Region.free md ops l i=true:=by kernel_rfl)
  (hr:(Region.ready md ops l).contains i=true:=by kernel_rfl) (hQ:∀c a w,Q (.panic c) (a.put o.dst v) w->Q (.panic c) a w:=by intro _ _ _ h;exact h) (hw:Region.wanted o (yielded ops a.tmps)=true:=by kernel_rfl) (hd:(ops[i]?).map (·.dst)=some (some d):=by kernel_rfl):aW P md ops Q S (k+1) l a w:=
 pS i d v hi hs hf hr hQ hw hd hy hS h
theorem ay (i d:Nat)(v:Value)(hi:ops[i]? = some o)(hS:S w)(h:aW P md ops Q S k (l.setIfInBounds i true) (a.put (some d) v) w)(hs:Region.noSelect ops=true:=by kernel_rfl)(hf:Region.free md ops l i=true:=by kernel_rfl)
  (hr:(Region.ready md ops l).contains i=true:=by kernel_rfl) (hQ:∀c a w,Q (.panic c) (a.put o.dst v) w->Q (.panic c) a w:=by intro _ _ _ h;exact h) (hw:Region.wanted o (yielded ops a.tmps)=true:=by kernel_rfl) (hd:(ops[i]?).map (·.dst)=some (some d):=by kernel_rfl) (hy:∀W,(execOp a.eval o).run P W=.ok (.value v) W:=by intro W;kernel_rfl):aW P md ops Q S (k+1) l a w:=
 pS i d v hi hs hf hr hQ hw hd (fun W _=>hy W) hS h
theorem cv (i d:Nat)(hi:ops[i]? = some o)(hS:S w)(h:aW P md ops Q S k (l.setIfInBounds i true) (a.put (some d) undef) w)(hs:Region.noSelect ops=true:=by kernel_rfl)(hf:Region.free md ops l i=true:=by kernel_rfl)
  (hr:(Region.ready md ops l).contains i=true:=by kernel_rfl) (hQ:∀c a w,Q (.panic c) (a.put o.dst undef) w->Q (.panic c) a w:=by intro _ _ _ h;exact h) (hw:Region.wanted o (yielded ops a.tmps)=false:=by kernel_rfl) (hd:(ops[i]?).map (·.dst)=some (some d):=by kernel_rfl):aW P md ops Q S (k+1) l a w:=
 wI i d hi hs hf hr hQ hw hd hS h
end
theorem Cl (x:aX)(w:World) :
  Calls Tryz.prog 151 #[.int .u32 (wv x),.int .i64 2] w fun e w'=>e=.returned (.int .u32 (wv (aE x 2)))/\Below w.heap.size w w':=by
 have e2:bits .or .u32 (wv x/4) (wv x*1073741824%4294967296)=(wv (aE x 2)):=gq x 2
 go_enter Tryz.func151,Tryz.ntmps151
 go_wp2_with fail
 go_quiet (fail)
 go_wp2
 go_ret
 exact⟨rfl,below_drewN (Below.refl _ _) nq⟩
theorem Cm (x:aX)(w:World) :
  Calls Tryz.prog 151 #[.int .u32 (wv x),.int .i64 6] w fun e w'=>e=.returned (.int .u32 (wv (aE x 6)))/\Below w.heap.size w w':=by
 have e2:bits .or .u32 (wv x/64) (wv x*67108864%4294967296)=(wv (aE x 6)):=gq x 6
 go_enter Tryz.func151,Tryz.ntmps151
 go_wp2_with fail
 go_quiet (fail)
 go_wp2
 go_ret
 exact⟨rfl,below_drewN (Below.refl _ _) nq⟩
theorem Cn (x:aX)(w:World) :
  Calls Tryz.prog 151 #[.int .u32 (wv x),.int .i64 7] w fun e w'=>e=.returned (.int .u32 (wv (aE x 7)))/\Below w.heap.size w w':=by
 have e2:bits .or .u32 (wv x/128) (wv x*33554432%4294967296)=(wv (aE x 7)):=gq x 7
 go_enter Tryz.func151,Tryz.ntmps151
 go_wp2_with fail
 go_quiet (fail)
 go_wp2
 go_ret
 exact⟨rfl,below_drewN (Below.refl _ _) nq⟩
theorem BK (x:aX)(w:World) :
  Calls Tryz.prog 151 #[.int .u32 (wv x),.int .i64 11] w fun e w'=>e=.returned (.int .u32 (wv (aE x 11)))/\Below w.heap.size w w':=by
 have e2:bits .or .u32 (wv x/2048) (wv x*2097152%4294967296)=(wv (aE x 11)):=gq x 11
 go_enter Tryz.func151,Tryz.ntmps151
 go_wp2_with fail
 go_quiet (fail)
 go_wp2
 go_ret
 exact⟨rfl,below_drewN (Below.refl _ _) nq⟩
theorem BL (x:aX)(w:World) :
  Calls Tryz.prog 151 #[.int .u32 (wv x),.int .i64 13] w fun e w'=>e=.returned (.int .u32 (wv (aE x 13)))/\Below w.heap.size w w':=by
 have e2:bits .or .u32 (wv x/8192) (wv x*524288%4294967296)=(wv (aE x 13)):=gq x 13
 go_enter Tryz.func151,Tryz.ntmps151
 go_wp2_with fail
 go_quiet (fail)
 go_wp2
 go_ret
 exact⟨rfl,below_drewN (Below.refl _ _) nq⟩
theorem BM (x:aX)(w:World) :
  Calls Tryz.prog 151 #[.int .u32 (wv x),.int .i64 17] w fun e w'=>e=.returned (.int .u32 (wv (aE x 17)))/\Below w.heap.size w w':=by
 have e2:bits .or .u32 (wv x/131072) (wv x*32768%4294967296)=(wv (aE x 17)):=gq x 17
 go_enter Tryz.func151,Tryz.ntmps151
 go_wp2_with fail
 go_quiet (fail)
 go_wp2
 go_ret
 exact⟨rfl,below_drewN (Below.refl _ _) nq⟩
theorem BN (x:aX)(w:World) :
  Calls Tryz.prog 151 #[.int .u32 (wv x),.int .i64 18] w fun e w'=>e=.returned (.int .u32 (wv (aE x 18)))/\Below w.heap.size w w':=by
 have e2:bits .or .u32 (wv x/262144) (wv x*16384%4294967296)=(wv (aE x 18)):=gq x 18
 go_enter Tryz.func151,Tryz.ntmps151
 go_wp2_with fail
 go_quiet (fail)
 go_wp2
 go_ret
 exact⟨rfl,below_drewN (Below.refl _ _) nq⟩
theorem BO (x:aX)(w:World) :
  Calls Tryz.prog 151 #[.int .u32 (wv x),.int .i64 19] w fun e w'=>e=.returned (.int .u32 (wv (aE x 19)))/\Below w.heap.size w w':=by
 have e2:bits .or .u32 (wv x/524288) (wv x*8192%4294967296)=(wv (aE x 19)):=gq x 19
 go_enter Tryz.func151,Tryz.ntmps151
 go_wp2_with fail
 go_quiet (fail)
 go_wp2
 go_ret
 exact⟨rfl,below_drewN (Below.refl _ _) nq⟩
theorem BP (x:aX)(w:World) :
  Calls Tryz.prog 151 #[.int .u32 (wv x),.int .i64 22] w fun e w'=>e=.returned (.int .u32 (wv (aE x 22)))/\Below w.heap.size w w':=by
 have e2:bits .or .u32 (wv x/4194304) (wv x*1024%4294967296)=(wv (aE x 22)):=gq x 22
 go_enter Tryz.func151,Tryz.ntmps151
 go_wp2_with fail
 go_quiet (fail)
 go_wp2
 go_ret
 exact⟨rfl,below_drewN (Below.refl _ _) nq⟩
theorem BQ (x:aX)(w:World) :
  Calls Tryz.prog 151 #[.int .u32 (wv x),.int .i64 25] w fun e w'=>e=.returned (.int .u32 (wv (aE x 25)))/\Below w.heap.size w w':=by
 have e2:bits .or .u32 (wv x/33554432) (wv x*128%4294967296)=(wv (aE x 25)):=gq x 25
 go_enter Tryz.func151,Tryz.ntmps151
 go_wp2_with fail
 go_quiet (fail)
 go_wp2
 go_ret
 exact⟨rfl,below_drewN (Below.refl _ _) nq⟩
theorem eR {P:Program}{ops:Array Oper}{rest:List Oper}{o:Oper}{a:Act}{w:World}{Q:Exit->Act->World->Prop}(hg:o.guard=none)(t:TypeId)(parts:Array (Nat × Operand))(ho:o.op=.build t parts)(cells:Array Value)
  (hb:P.built t (parts.map fun (i,x)=>(i,a.eval x)).toList=some cells) (h:wpList P ops Q rest (a.put o.dst (.agg cells)) w):wpList P ops Q (o::rest) a w:=
 wpList_build hg t parts ho (by rw[hb];rfl) (by rw[hb];exact h)
def Cr : Array Value:=(Kl.map fun x=>Value.int .u32 (wv x)).toArray
theorem pT : ∃D:Array Value,D=Cr/\(Tryz.prog.info? 171).map (·.size)=some D.size/\D.all (·.oneCell')=true/\D.size=64:=⟨_,rfl,kr,kr,kr⟩
theorem sL (w:World):Calls Tryz.prog 152 #[] w fun e w'=>e=.returned (.agg Cr)/\Below w.heap.size w w':=by
 obtain⟨D,hD,hi,ho,hs⟩:=pT
 have HD:=aa hD
 have HI:=aa hi
 have HO:=aa ho
 have HS:=aa hs
 clear hD hi ho hs
 go_enter Tryz.func152,Tryz.ntmps152
 go_upto_region 1 with (fail)
 obtain⟨D0,hD0⟩:=zg w.heap.size
 have hr0:(w.alloc (.cells zG 171)).heap[D0]? = some (.cells zG 171 (0,0)):=by rw[hD0];exact heap_alloc_new w _
 have hB1:=(Below.refl _ w).alloc (Nat.le_refl _) (.cells zG 171)
 have hz:w.heap.size<=D0:=Nat.le_of_eq hD0.symm
 rw[<-hD0]
 generalize w.alloc (.cells zG 171)=w1 at *
 obtain⟨Z,hZ⟩:∃Z:Array Value,Z=zG:=⟨_,rfl⟩
 have hZs:Z.size=64:=by rw[hZ];rfl
 rw[<-hZ]at hr0
 have HR:=aa hr0
 have HZS:=aa hZs
 clear hD0 hr0 hZ hZs
 go_wp2_with (first
  | (refine eR rfl 171 _ rfl D (by rw[HD.out];kernel_rfl) ?_;simp only[Act.put,zA])
  | (refine wpList_store_row rfl 171 (.tmp 0) (.tmp 1) rfl D0 D ?e1 ?e2 171 Z HR.out HI.out ?e3 HO.out ?_;(case e1=>rfl);(case e2=>rfl);(case e3=>exact HZS.out.trans HS.out.symm)))
 refine bodyPost_ret (results_cell_row rfl _ _ D0 171 D (0,0) _ rfl (setRow_heap _ _ _ _ _ _ HR.out) Tryz.underlying171 rfl HI.out) rfl ?_
 exact⟨by rw[HD.out],below_setRow hB1 hz _⟩
theorem tx {P:Program}{o:Oper}{a:Act}{w w':World}{K:Act->World->Prop}{Q:Exit->Act->World->Prop}(v:Value)(hr:(execOp a.eval o).run P w=.ok (.value v) w')(h:K (a.put o.dst v) w'):o.wp P a w K Q:=by
 unfold Oper.wp
 rw[hr,Oper.upon_value]
 exact h
theorem im {P:Program}{o:Oper}{a:Act}{w:World}{K:Act->World->Prop}{Q:Exit->Act->World->Prop}(f:FuncId)(args:Array Value)(hr:(execOp a.eval o).run P w=.ok (.enter f args) w)
  (hc:Calls P f args w fun e w'=>∃v,e=.returned v/\K (a.put o.dst v) w'):o.wp P a w K Q:=by
 unfold Oper.wp
 rw[hr]
 exact hc.mono fun e w' ⟨v,he,hk⟩=>by subst he;exact hk
theorem pq (i a b:Nat)(h:b<2 ^ i):2 ^ i*a ||| b=2 ^ i*a+b:=(Nat.two_pow_add_eq_or_of_lt h a).symm
theorem AH (x0 x1 x2 x3:UInt8):bits .or .u32 (bits .or .u32 (bits .or .u32 ((x0.toNat:Int)%4294967296*16777216%4294967296) ((x1.toNat:Int)%4294967296*65536%4294967296)) ((x2.toNat:Int)%4294967296*256%4294967296)) ((x3.toNat:Int)%4294967296)=wv (gR x0 x1 x2 x3):=by
 have b0:=x0.toNat_lt
 have b1:=x1.toNat_lt
 have b2:=x2.toNat_lt
 have b3:=x3.toNat_lt
 have e0:(x0.toNat:Int)%4294967296*16777216%4294967296=((2 ^ 24*x0.toNat:Nat):Int):=om
 have e1:(x1.toNat:Int)%4294967296*65536%4294967296=((2 ^ 16*x1.toNat:Nat):Int):=om
 have e2:(x2.toNat:Int)%4294967296*256%4294967296=((2 ^ 8*x2.toNat:Nat):Int):=om
 have e3:(x3.toNat:Int)%4294967296=((x3.toNat:Nat):Int):=om
 rw[e0,e1,e2,e3,u32_or_nat _ _ om om,pq 24 _ _ om,u32_or_nat _ _ om om]
 rw[show 2 ^ 24*x0.toNat+2 ^ 16*x1.toNat=2 ^ 16*(2 ^ 8*x0.toNat+x1.toNat) by omega,pq 16 _ _ om,u32_or_nat _ _ om om]
 rw[show 2 ^ 16*(2 ^ 8*x0.toNat+x1.toNat)+2 ^ 8*x2.toNat=2 ^ 8*(2 ^ 16*x0.toNat+2 ^ 8*x1.toNat+x2.toNat) by omega,pq 8 _ _ om]
 unfold wv
 rw[mJ]
 omega
theorem yP (b off n c:Nat)(x0 x1 x2 x3:UInt8)(w:World)(hn:4<=n)(_hc:n<=c)
  (h0:w.cell? ⟨b,off,none⟩=some (.int .u8 x0.toNat)) (h1:w.cell? ⟨b,off+1,none⟩=some (.int .u8 x1.toNat)) (h2:w.cell? ⟨b,off+2,none⟩=some (.int .u8 x2.toNat)) (h3:w.cell? ⟨b,off+3,none⟩=some (.int .u8 x3.toNat)) :
  Calls Tryz.prog 150 #[.slice (some ⟨b,off,none⟩) n c] w fun e w'=>e=.returned (.int .u32 (wv (gR x0 x1 x2 x3)))/\Below w.heap.size w w':=by
 have n0:(0:Int)<(n:Int):=om
 have n1:(1:Int)<(n:Int):=om
 have n2:(2:Int)<(n:Int):=om
 have n3:(3:Int)<(n:Int):=om
 have HE:=aa (AH x0 x1 x2 x3)
 go_enter Tryz.func150,Tryz.ntmps150
 go_wp2_with fail
 go_quiet (fail)
 go_wp2
 go_ret
 exact⟨bY HE.out,below_drewN (Below.refl _ _) nq⟩
theorem ji {P:Program}{ops:Array Oper}{rest:List Oper}{o:Oper}{a:Act}{w:World}{Q:Exit->Act->World->Prop}(f:FuncId)(args:Array Value)(hw:Region.wanted o (yielded ops a.tmps)=true)(hr:(execOp a.eval o).run P w=.ok (.enter f args) w)
  (hc:Calls P f args w fun e w'=>∃v,e=.returned v/\wpList P ops Q rest (a.put o.dst v) w'):wpList P ops Q (o::rest) a w:=by
 unfold wpList
 rw[if_pos hw]
 exact .inl (im f args hr hc)
theorem lL {P:Program}{ops:Array Oper}{rest:List Oper}{o:Oper}{a:Act}{w:World}{Q:Exit->Act->World->Prop}(v:Value)(hw:Region.wanted o (yielded ops a.tmps)=true)(hr:(execOp a.eval o).run P w=.ok (.value v) w)(h:wpList P ops Q rest (a.put o.dst v) w):wpList P ops Q (o::rest) a w:=by
 unfold wpList
 rw[if_pos hw]
 exact .inl (tx v hr h)
theorem fF {o:Oper}{act:Act}{W:World}(p q:Operand)(ho:o.op=.binOp .xor 117 p q 117)(a b:aX)(hp:act.eval p=.int .u32 (wv a))(hq:act.eval q=.int .u32 (wv b)):(execOp act.eval o).run Tryz.prog W=.ok (.value (.int .u32 (wv (a ^^^ b)))) W:=by
 have e:=iu a b
 unfold execOp
 simp only[ho,hp,hq]
 go_simp
theorem lM {o:Oper}{act:Act}{W:World}(p q:Operand)(ho:o.op=.binOp .and 117 p q 117)(a b:aX)(hp:act.eval p=.int .u32 (wv a))(hq:act.eval q=.int .u32 (wv b)):(execOp act.eval o).run Tryz.prog W=.ok (.value (.int .u32 (wv (a &&& b)))) W:=by
 have e:=qC a b
 unfold execOp
 simp only[ho,hp,hq]
 go_simp
theorem dw {o:Oper}{act:Act}{W:World}(p q:Operand)(ho:o.op=.binOp .add 117 p q 117)(a b:aX)(hp:act.eval p=.int .u32 (wv a))(hq:act.eval q=.int .u32 (wv b)):(execOp act.eval o).run Tryz.prog W=.ok (.value (.int .u32 (wv (a+b)))) W:=by
 have e:=qD a b
 unfold execOp
 simp only[ho,hp,hq]
 go_simp
 rw[IntKind.wrap_u32]
 exact e
theorem BR {o:Oper}{act:Act}{W:World}(p:Operand)(ho:o.op=.unOp .xor 117 p)(a:aX)(hp:act.eval p=.int .u32 (wv a)):(execOp act.eval o).run Tryz.prog W=.ok (.value (.int .u32 (wv (~~~a)))) W:=by
 have e:=iu (BitVec.allOnes 32) a
 rw[BitVec.allOnes_xor]at e
 unfold execOp
 simp only[ho,hp]
 go_simp
 exact e
theorem wL {o:Oper}{act:Act}{W:World}(p:Operand)(n:Nat)(hn:n=3\/n=10)(ho:o.op=.binOp .shr 117 p (.const (.int .u64 n)) 79)(a:aX)(hp:act.eval p=.int .u32 (wv a)):(execOp act.eval o).run Tryz.prog W=.ok (.value (.int .u32 (wv (a >>> n)))) W:=by
 have h0:act.eval (.const (.int .u64 n))=.int .u64 n:=rfl
 rcases hn with rfl|rfl
 ·unfold execOp
  simp only[ho,hp,h0]
  go_simp
  simpa using mh a 3
 ·unfold execOp
  simp only[ho,hp,h0]
  go_simp
  simpa using mh a 10
theorem cP {o:Oper}{a:Act}{W:World}(x:Operand)(ho:o.op=.load 117 x)(p:Addr){v:Value}(hx:a.eval x=.pointer (some p))(hc:W.cell? p=some v):(execOp a.eval o).run Tryz.prog W=.ok (.value v) W:=by
 unfold execOp
 simp only[ho,hx]
 go_simp
theorem kU {o:Oper}{act:Act}{W:World}(p q:Operand)(ho:o.op=.indexAddr 171 p q)(g k:Nat)(hp:act.eval p=.pointer (some ⟨g,0,none⟩))(hq:act.eval q=.int .i64 k)(hk:k<64) :
  (execOp act.eval o).run Tryz.prog W=.ok (.value (.pointer (some ⟨g,k,none⟩))) W:=by
 have h0:(0:Int)<=(k:Int):=om
 have h1:(k:Int)<64:=om
 unfold execOp
 simp only[ho,hp,hq]
 go_simp
theorem ox {o:Oper}{act:Act}{W:World}(p:Operand)(m:Int)(ho:o.op=.binOp .sub 3 p (.const (.int .i64 m)) 3)(k j:Nat)(hp:act.eval p=.int .i64 k)(hj:(k:Int)-m=(j:Int))(hk:k<1000)(hm:0<=m):(execOp act.eval o).run Tryz.prog W=.ok (.value (.int .i64 j)) W:=by
 have h0:act.eval (.const (.int .i64 m))=.int .i64 m:=rfl
 have e:IntKind.i64.wrap ((k:Int)-m)=(j:Int):=by rw[hj,IntKind.wrap_i64];omega
 unfold execOp
 simp only[ho,hp,h0]
 clear hj
 go_simp
theorem ed {P:Program}{ops:Array Oper}{rest:List Oper}{o:Oper}{a:Act}{w:World}{Q:Exit->Act->World->Prop}(v:Value)(hr:(execOp a.eval o).run P w=.ok (.value v) w)(h:wpList P ops Q rest (a.put o.dst v) w)(hw:Region.wanted o (yielded ops a.tmps)=true:=by kernel_rfl):wpList P ops Q (o::rest) a w:=lL v hw hr h
theorem cI {P:Program}{ops:Array Oper}{rest:List Oper}{o:Oper}{a:Act}{w:World}{Q:Exit->Act->World->Prop}(v:Value)(h:wpList P ops Q rest (a.put o.dst v) w)(hw:Region.wanted o (yielded ops a.tmps)=true:=by kernel_rfl)(hr:(execOp a.eval o).run P w=.ok (.value v) w:=by kernel_rfl):wpList P ops Q (o::rest) a w:=lL v hw hr h
end Go.Proofs.YtmflnpdmlfmcpaaGreatDoor.Dr
