/- Joined texts. -/
import Derived.Test.YtmflnpdmlfmcpaaGreatDoorJp13
namespace Go.Proofs.YtmflnpdmlfmcpaaGreatDoor.Dr
open Go.RowKit Go.Shelf
def wG (pc:Option (List PanicEntry))(e:Ending):Prop:=match pc with
 | none=>∃v,e=.returned v
 | some c=>e=.panicked c
def pR {α β:Type}(F:Fence)(n:Nat)(P:Program)(g:Nat)(lb:Array Value)(encs:α->Array Value)(R:World->α->β->Prop)(Kp:World->World->Prop)(ys:List β)(pc:Option (List PanicEntry))(w:World):Prop:=
 ∀(l:Nat) (J:List β->World->Prop) (W:World),Below w.heap.size w W->mf J ->
  (∀pre x y post W1,ys=pre++y::post->J pre W1->R W1 x y->YieldAt F (n-1) P l (encs x) W1 fun e W'=>e=.returned (.bool true)/\J (pre++[y]) W'/\Kp W1 W') ->
  J [] W->CallsIn F n P g (#[.func (.yield l) #[] #[]]++lb) W fun e W'=>wG pc e/\J ys W'
def AF (N:World->Prop):Exit->Act->World->Prop
 | .normal,_,W=>N W
 | _,_,_=>False
theorem mB {α β:Type}{F:Fence}{n:Nat}{P:Program}{g:Operand}{ps:Array Tmp}{assign body:Code}{Q:Exit->Act->World->Prop}{a:Act}{w:World}
  (hro:F.round=none) (h1:1<=n) {gf:Nat} {lb:Array Value} (hg:a.eval g=.func (.func gf) #[] lb) (hFg:F.fn gf) (eg:∀args w,(callFunc gf args).run P w=.ok (.enter gf args) w)
  {encs:α->Array Value} {R:World->α->β->Prop} {Kp:World->World->Prop} {ys:List β} {pc:Option (List PanicEntry)} {w0:World} (hseq:pR F (n-1) P gf lb encs R Kp ys pc w0) (hKt:∀ {A B C:World},Kp A B->Kp B C->Kp A C) (hKb:∀(W:World) (l:Nat) (o o':Obj),w.heap.size<=l->W.heap[l]? = some o->o.isCells=false->o.isWalk=false->Kp W (W.putObj l o')) (hKg:∀W W':World,w.heap.size<=W.heap.size->Below W.heap.size W W'->Kp W W') (hb0:Below w0.heap.size w0 w) (hps:∀x,(encs x).size=ps.size)
  (I:List β->World->Prop) (hI:∀s W W',I s W->CellsKept W W'->Below w.heap.size W W'->I s W') (hR:∀x y W W',R W x y->CellsKept W W'->R W' x y) (h0:I [] w) (Ax:α->Act->World->Prop) (hAx:∀x a' W W',Ax x a' W->CellsKept W W'->Ax x a' W')
  (hassign:∀(l:Nat) (x:α) (y:β) (W:World) (K:Act->World->Prop),R W x y->w.heap.size<=W.heap.size->(∀a' W',Below W.heap.size W W'->Ax x a' W'->K a' W') ->
   assign.wpIn (F.inRound l) (n-1-1) P (Exit.then K (fun _ _ _=>False)) { tmps:=(ps.zip (encs x)).foldl (fun t (p,v)=>t.setIfInBounds p v) a.tmps,defers:=[] } W)
  (hbody:∀(l:Nat) (pre:List β) (x:α) (y:β) (post:List β) (a':Act) (W:World),ys=pre++y::post->I pre W->R W x y->Ax x a' W ->
   body.wpIn (F.inRound l) (n-1-1) P (AF fun W'=>KeepsFrom w.heap.size W W'/\Kp W W'/\I (pre++[y]) W') a' W)
  (hdone:∀(D:Nat) (W:World),w.heap.size<=D->pc=none->I ys W->W.heap[D]? = some (.deferred (some []))->Q .normal { a with defers:={ target:=.collected D,args:=#[] }::a.defers } W)
  (hpan:∀(D:Nat) (W:World) (c:List PanicEntry),w.heap.size<=D->pc=some c->I ys W->W.heap[D]? = some (.deferred (some []))->Q (.panic c) { a with defers:={ target:=.collected D,args:=#[] }::a.defers } W) :
  (Code.rangeFunc g ps assign body).wpIn F n P Q a w:=by
 refine wpIn_rangeFunc fun fn hfn => ?_
 rw[hro]
 obtain⟨D,hD⟩:=zg w.heap.size
 obtain⟨rc,hrc⟩:∃rc:LoopState->Loop,rc=fun st=>{ state:=st,pending:=none,fn,tmps:=a.tmps,params:=ps,assign,body,defers:=D }:=⟨_,rfl⟩
 obtain⟨V,hV⟩:=zg ((w.alloc (.deferred (some []))).alloc (.loop (rc .ready)))
 have hBV:Below w.heap.size w V:=by rw[hV];exact((Below.refl _ w).alloc (Nat.le_refl _) _).alloc (by simp) _
 have hVD:V.heap[D]? = some (.deferred (some [])):=by rw[hV,hD];exact(Below.heap_alloc _ _ _ (by simp)).trans (World.alloc_heap_new w _)
 have hVL:V.heap[D+1]? = some (.loop (rc .ready)):=by
  have:=World.alloc_heap_new (w.alloc (.deferred (some []))) (.loop (rc .ready))
  rw[World.size_alloc]at this
  rw[hV,hD];exact this
 have hrun:(Instr.enterLoop fn a.tmps ps assign body none).run P w=.ok (D+1,[{ target:=.collected D,args:=#[] }]) V:=by
  rw[run_enterLoop_outer,hV,hrc,hD]
 refine⟨D+1,_,V,{ target:=.fn (.func gf) lb,args:=#[.func (.yield (D+1)) #[] #[]] },V,gf,#[.func (.yield (D+1)) #[] #[]]++lb,V,hrun,?_,?_,?_,fun _=>h1,?_⟩
 ·simp only[resolve,hg]
  simp[go_sem]
 ·intro f' hf'
  simp only[Target.leads]at hf'
  simp at hf'
  subst hf'
  exact hFg
 ·simp[invoke,go_sem,eg]
 refine CallsIn.mono (hseq (D+1) (fun pre W=>I pre W/\w.heap.size<=W.heap.size/\W.heap[D]? = some (.deferred (some []))/\W.heap[D+1]? = some (.loop (rc .ready))) V (hb0.trans (hBV.mono hb0.size)) ?_ ?_ ?_) ?_
 ·rintro s W W' ⟨hi,hs,hd,hl⟩ hB
  have hlt:=(Array.getElem?_eq_some_iff.1 hl).1
  exact⟨hI s W W' hi (.of_below hB) (hB.mono hs),Nat.le_trans hs hB.size,(hB.block _ (Array.getElem?_eq_some_iff.1 hd).1).trans hd,(hB.block _ hlt).trans hl⟩
 ·rintro pre x y post W hys ⟨hi,hs,hd,hl⟩ hx
  have hyl:=run_yield (P:=P) (args:=encs x) hl (by rw[hrc];exact hps x)
  rw[hrc]at hyl
  refine⟨fn,_,assign,body,hyl,roundIn_of_wpIn hfn (hassign _ x y W _ hx hs ?_)⟩
  intro a' Wa hBa hax
  have hla:=(hBa.block _ (Array.getElem?_eq_some_iff.1 hl).1).trans hl
  have hda:=(hBa.block _ (Array.getElem?_eq_some_iff.1 hd).1).trans hd
  have hia:=hI _ _ _ hi (.of_below hBa) (hBa.mono hs)
  have hsa:=Nat.le_trans hs hBa.size
  have hkw:=hKg W Wa hs hBa
  have hxa:=hR _ _ _ _ hx (.of_below hBa)
  refine⟨Wa.putObj (D+1) (.loop (rc .busy)),?_,?_⟩
  ·have:=run_beginRound (P:=P) hla (by rw[hrc])
   rw[this,hrc]
  have hlt:D+1<Wa.heap.size:=(Array.getElem?_eq_some_iff.1 hla).1
  have hl2:(Wa.putObj (D+1) (.loop (rc .busy))).heap[D+1]? = some (.loop (rc .busy)):=World.putObj_heap_same hlt
  have hd2:(Wa.putObj (D+1) (.loop (rc .busy))).heap[D]? = some (.deferred (some [])):=(World.putObj_heap_other om).trans hda
  have hk:CellsKept Wa (Wa.putObj (D+1) (.loop (rc .busy))):=.putObj Wa _ hla rfl
  have hB2:Below w.heap.size Wa (Wa.putObj (D+1) (.loop (rc .busy))):=belowK_b (w:=w) (Nat.le_refl _) Wa (D+1) _ _ om hla rfl rfl
  refine wpIn_mono (hbody (D+1) pre x y post a' _ hys (hI _ _ _ hia hk hB2) (hR _ _ _ _ hxa hk) (hAx _ _ _ _ hax hk)) ?_
  rintro e a3 W3 hp
  cases e with
  | normal =>
   obtain⟨h3,h4,h5⟩:=hp
   have hl3:=h3.same _ _ om hl2 rfl
   have hd3:=h3.same _ _ om hd2 rfl
   have hend:=run_endRound (P:=P) none hl3
   have hr3:({ rc .busy with state:=if (none:Option Code).isNone then LoopState.ready else LoopState.done,pending:=none }:Loop)=rc .ready:=by rw[hrc];rfl
   rw[hr3]at hend
   refine⟨_,_,hend,rfl,⟨?_,?_,?_,World.putObj_heap_same (Array.getElem?_eq_some_iff.1 hl3).1⟩,?_⟩
   ·exact hI _ _ _ h5 (.putObj W3 _ hl3 rfl) (belowK_b (w:=w) (Nat.le_refl _) W3 (D+1) _ _ om hl3 rfl rfl)
   ·have:=h3.size;simp at this ⊢;omega
   ·exact(World.putObj_heap_other om).trans hd3
   ·exact hKt hkw (hKt (hKt (hKb Wa (D+1) _ _ om hla rfl rfl) h4) (hKb W3 (D+1) _ _ om hl3 rfl rfl))
  | ret=>exact hp.elim
  | exit id=>exact hp.elim
  | goto t=>exact hp.elim
  | panic ch=>exact hp.elim
  | outgrown=>exact hp.elim
 ·exact⟨hI _ _ _ h0 (.of_below hBV) hBV,hBV.size,hVD,hVL⟩
 ·rintro e W2 ⟨he,hi,hs,hd,hl⟩
  cases pc with
  | none =>
   obtain⟨v,rfl⟩:=he
   have hend:=run_endLoop (P:=P) hl (by rw[hrc];simp)
   have hp:(rc .ready).pending=none:=by rw[hrc]
   rw[hp]at hend
   refine⟨none,_,hend,?_⟩
   exact hdone D _ om rfl (hI _ _ _ hi (.putObj W2 _ hl rfl) (belowK_b (w:=w) (Nat.le_refl _) W2 (D+1) _ _ om hl rfl rfl)) ((World.putObj_heap_other om).trans hd)
  | some c =>
   subst he
   exact hpan D W2 c om rfl hi hd
end Go.Proofs.YtmflnpdmlfmcpaaGreatDoor.Dr
