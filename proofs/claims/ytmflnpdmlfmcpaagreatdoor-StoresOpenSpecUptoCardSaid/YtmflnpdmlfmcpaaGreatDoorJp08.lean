/- Joined texts. -/
import Derived.Test.YtmflnpdmlfmcpaaGreatDoorJp00
namespace Go.Proofs.YtmflnpdmlfmcpaaGreatDoor
open Go.RowKit Go.Shelf
variable {Nz : Nat}
def mf {β:Type}(I:β->World->Prop):Prop:=∀s W W',I s W->Below W.heap.size W W'->I s W'
structure CellsKept (W W':World):Prop where
 size:W.heap.size<=W'.heap.size
 same:∀(k:Nat) (C:Array Value) (t:TypeId) (fr:Nat × Nat),W.heap[k]? = some (.cells C t fr)->W'.heap[k]? = some (.cells C t fr)
theorem CellsKept.refl (W:World):CellsKept W W:=⟨Nat.le_refl _,fun _ _ _ _ h=>h⟩
theorem CellsKept.of_below {W W':World}(h:Below W.heap.size W W'):CellsKept W W':=⟨h.size,fun k _ _ _ hk=>(h.block k (Array.getElem?_eq_some_iff.1 hk).1).trans hk⟩
theorem CellsKept.putObj (W:World){l:Nat}{o:Obj}(o':Obj)(hl:W.heap[l]? = some o)(ho:o.isCells=false):CellsKept W (W.putObj l o'):=
 ⟨by simp,fun k C t fr hk=>(World.putObj_heap_other (by rintro rfl;rw[hl]at hk;cases hk;cases ho)).trans hk⟩
theorem CellsKept.cell {W W':World}(h:CellsKept W W'){p:Addr}{v:Value}(hc:W.cell? p=some v):W'.cell? p=some v:=by
 have hb:W'.heap[p.block]? = W.heap[p.block]? := by
  unfold World.cell? at hc
  cases ho:W.heap[p.block]? with
  | none=>simp[ho]at hc
  | some o =>
   cases o with
   | cells C t fr=>exact h.same _ _ _ _ ho
   | _=>simp[ho]at hc
 rw[World.cell?_of_block hb]
 exact hc
theorem Sl.cellsKept {α:Type}{k:Nat}{R:World->List Value->α->Prop}{w w':World}{a:Option Addr}{n:Nat}{xs:List α}(h:Sl k R w a n xs)(hw:CellsKept w w')(hR:∀vs x,R w vs x->R w' vs x):Sl k R w' a n xs:=by
 obtain⟨hl,h⟩:=h
 refine⟨hl,?_⟩
 rcases h with h|⟨b,off,ha,h⟩
 ·exact .inl h
 ·refine .inr ⟨b,off,ha,fun i x hx => ?_⟩
  obtain⟨vs,hk,hr,hc⟩:=h i x hx
  exact⟨vs,hk,hR _ _ hr,fun j v hv=>hw.cell (hc j v hv)⟩
theorem bO.cellsKept {w w':World}{a:Option Addr}{n:Nat}(h:bO Nz w a n)(hw:CellsKept w w'):bO Nz w' a n:=by
 rcases h with h|h
 ·exact .inl h
 ·refine .inr fun ad e => ?_
  obtain⟨h1,h2⟩:=h ad e
  refine⟨Nat.lt_of_lt_of_le h1 hw.size,?_⟩
  rcases h2 with h2|⟨C,t,fr,h2,h3⟩
  ·exact .inl h2
  ·exact .inr ⟨C,t,fr,hw.same _ _ _ _ h2,h3⟩
theorem aN.cellsKept {w w':World}{vs:List Value}{bs:List UInt8}(h:aN Nz w vs bs)(hw:CellsKept w w'):aN Nz w' vs bs:=by
 obtain⟨a,n,c,rfl,h1,h2,h3,h4⟩:=h
 exact⟨a,n,c,rfl,h1,h2,h3.cellsKept hw (fun _ _ h=>h),h4.cellsKept hw⟩
theorem gD {w W:World}{base:Nat}{e:TypeId}{size n:Nat}{v:Value}{xs:List Value}(h:w.ownsRow base e size v n xs)(hW:CellsKept w W):W.ownsRow base e size v n xs:=by
 obtain⟨h1,h2⟩:=h
 refine⟨h1,?_⟩
 rcases h2 with h2|⟨g,cap,cur,rfl,h3,h4,h5⟩
 ·exact .inl h2
 ·exact .inr ⟨g,cap,cur,rfl,h3,hW.same _ _ _ _ h4,h5⟩
def qU {α β:Type}(F:Fence)(n:Nat)(P:Program)(g:Nat)(lb:Array Value)(encs:α->Array Value)(R:World->α->β->Prop)(Kp:World->World->Prop)(ys:List β)(w:World):Prop:=
 ∀(l:Nat) (J:List β->World->Prop) (W:World),Below w.heap.size w W->mf J ->
  (∀pre x y post W1,ys=pre++y::post->J pre W1->R W1 x y->YieldAt F (n-1) P l (encs x) W1 fun e W'=>e=.returned (.bool true)/\J (pre++[y]) W'/\Kp W1 W') ->
  J [] W->CallsIn F n P g (#[.func (.yield l) #[] #[]]++lb) W fun e W'=>(∃v,e=.returned v)/\J ys W'
def Ag (N:World->Prop):Exit->Act->World->Prop
 | .normal,_,W=>N W
 | _,_,_=>False
theorem nj {α β:Type}{F:Fence}{n:Nat}{P:Program}{g:Operand}{ps:Array Tmp}{assign body:Code}{Q:Exit->Act->World->Prop}{a:Act}{w:World}
  (hro:F.round=none) (h1:1<=n) {gf:Nat} {lb:Array Value} (hg:a.eval g=.func (.func gf) #[] lb) (hFg:F.fn gf) (eg:∀args w,(callFunc gf args).run P w=.ok (.enter gf args) w)
  {encs:α->Array Value} {R:World->α->β->Prop} {Kp:World->World->Prop} {ys:List β} {w0:World} (hseq:qU F (n-1) P gf lb encs R Kp ys w0) (hKt:∀ {A B C:World},Kp A B->Kp B C->Kp A C) (hKb:∀(W:World) (l:Nat) (o o':Obj),w.heap.size<=l->W.heap[l]? = some o->o.isCells=false->o.isWalk=false->Kp W (W.putObj l o')) (hb0:Below w0.heap.size w0 w) (hps:∀x,(encs x).size=ps.size)
  (I:List β->World->Prop) (hI:∀s W W',I s W->CellsKept W W'->Below w.heap.size W W'->I s W') (hR:∀x y W W',R W x y->CellsKept W W'->R W' x y) (h0:I [] w) (a₁:α->Act)
  (hassign:∀(l:Nat) (x:α) (W:World) (K:Act->World->Prop),K (a₁ x) W ->
   assign.wpIn (F.inRound l) (n-1-1) P (Exit.then K (fun _ _ _=>False)) { tmps:=(ps.zip (encs x)).foldl (fun t (p,v)=>t.setIfInBounds p v) a.tmps,defers:=[] } W)
  (hbody:∀(l:Nat) (pre:List β) (x:α) (y:β) (post:List β) (W:World),ys=pre++y::post->I pre W->R W x y ->
   body.wpIn (F.inRound l) (n-1-1) P (Ag fun W'=>KeepsFrom w.heap.size W W'/\Kp W W'/\I (pre++[y]) W') (a₁ x) W)
  (hdone:∀(D:Nat) (W:World),w.heap.size<=D->I ys W->W.heap[D]? = some (.deferred (some []))->Q .normal { a with defers:={ target:=.collected D,args:=#[] }::a.defers } W) :
  (Code.rangeFunc g ps assign body).wpIn F n P Q a w:=by
 refine wpIn_rangeFunc fun fn hfn => ?_
 rw[hro]
 obtain⟨D,hD⟩:=zg w.heap.size
 obtain⟨rc,hrc⟩:∃rc:LoopState->Loop,rc=fun st=>{ state:=st,pending:=none,fn,tmps:=a.tmps,params:=ps,assign,body,defers:=D }:=⟨_,rfl⟩
 obtain⟨V,hV⟩:=zg ((w.alloc (.deferred (some []))).alloc (.loop (rc .ready)))
 have hBV:Below w.heap.size w V:=by rw[hV];exact((Below.refl _ w).alloc (Nat.le_refl _) _).alloc (by simp) _
 have hVD:V.heap[D]? = some (.deferred (some [])):=by rw[hV,hD];exact(Below.heap_alloc _ _ _ (by simp)).trans (World.alloc_heap_new w _)
 have hVL:V.heap[D+1]? = some (.loop (rc .ready)):=by
  have:=World.alloc_heap_new (w.alloc (.deferred (some []))) (.loop (rc .ready))
  rw[World.size_alloc]at this
  rw[hV,hD];exact this
 have hrun:(Instr.enterLoop fn a.tmps ps assign body none).run P w=.ok (D+1,[{ target:=.collected D,args:=#[] }]) V:=by
  rw[run_enterLoop_outer,hV,hrc,hD]
 refine⟨D+1,_,V,{ target:=.fn (.func gf) lb,args:=#[.func (.yield (D+1)) #[] #[]] },V,gf,#[.func (.yield (D+1)) #[] #[]]++lb,V,hrun,?_,?_,?_,fun _=>h1,?_⟩
 ·simp only[resolve,hg]
  simp[go_sem]
 ·intro f' hf'
  simp only[Target.leads]at hf'
  simp at hf'
  subst hf'
  exact hFg
 ·simp[invoke,go_sem,eg]
 refine CallsIn.mono (hseq (D+1) (fun pre W=>I pre W/\W.heap[D]? = some (.deferred (some []))/\W.heap[D+1]? = some (.loop (rc .ready))) V (hb0.trans (hBV.mono hb0.size)) ?_ ?_ ?_) ?_
 ·rintro s W W' ⟨hi,hd,hl⟩ hB
  have hlt:=(Array.getElem?_eq_some_iff.1 hl).1
  exact⟨hI s W W' hi (.of_below hB) (hB.mono om),(hB.block _ (Array.getElem?_eq_some_iff.1 hd).1).trans hd,(hB.block _ hlt).trans hl⟩
 ·rintro pre x y post W hys ⟨hi,hd,hl⟩ hx
  have hyl:=run_yield (P:=P) (args:=encs x) hl (by rw[hrc];exact hps x)
  rw[hrc]at hyl
  refine⟨fn,_,assign,body,hyl,roundIn_of_wpIn hfn (hassign _ x W _ ?_)⟩
  refine⟨W.putObj (D+1) (.loop (rc .busy)),?_,?_⟩
  ·have:=run_beginRound (P:=P) hl (by rw[hrc])
   rw[this,hrc]
  have hlt:D+1<W.heap.size:=(Array.getElem?_eq_some_iff.1 hl).1
  have hl2:(W.putObj (D+1) (.loop (rc .busy))).heap[D+1]? = some (.loop (rc .busy)):=World.putObj_heap_same hlt
  have hd2:(W.putObj (D+1) (.loop (rc .busy))).heap[D]? = some (.deferred (some [])):=(World.putObj_heap_other om).trans hd
  have hk:CellsKept W (W.putObj (D+1) (.loop (rc .busy))):=.putObj W _ hl rfl
  have hB2:Below w.heap.size W (W.putObj (D+1) (.loop (rc .busy))):=belowK_b (w:=w) (Nat.le_refl _) W (D+1) _ _ om hl rfl rfl
  refine wpIn_mono (hbody (D+1) pre x y post _ hys (hI _ _ _ hi hk hB2) (hR _ _ _ _ hx hk)) ?_
  rintro e a3 W3 hp
  cases e with
  | normal =>
   obtain⟨h3,h4,h5⟩:=hp
   have hl3:=h3.same _ _ om hl2 rfl
   have hd3:=h3.same _ _ om hd2 rfl
   have hend:=run_endRound (P:=P) none hl3
   have hr3:({ rc .busy with state:=if (none:Option Code).isNone then LoopState.ready else LoopState.done,pending:=none }:Loop)=rc .ready:=by rw[hrc];rfl
   rw[hr3]at hend
   refine⟨_,_,hend,rfl,⟨?_,?_,World.putObj_heap_same (Array.getElem?_eq_some_iff.1 hl3).1⟩,?_⟩
   ·exact hI _ _ _ h5 (.putObj W3 _ hl3 rfl) (belowK_b (w:=w) (Nat.le_refl _) W3 (D+1) _ _ om hl3 rfl rfl)
   ·exact(World.putObj_heap_other om).trans hd3
   ·exact hKt (hKt (hKb W (D+1) _ _ om hl rfl rfl) h4) (hKb W3 (D+1) _ _ om hl3 rfl rfl)
  | ret=>exact hp.elim
  | exit id=>exact hp.elim
  | goto t=>exact hp.elim
  | panic ch=>exact hp.elim
  | outgrown=>exact hp.elim
 ·exact⟨hI _ _ _ h0 (.of_below hBV) hBV,hVD,hVL⟩
 ·rintro e W2 ⟨⟨v,rfl⟩,hi,hd,hl⟩
  have hend:=run_endLoop (P:=P) hl (by rw[hrc];simp)
  have hp:(rc .ready).pending=none:=by rw[hrc]
  rw[hp]at hend
  refine⟨none,_,hend,?_⟩
  exact hdone D _ om (hI _ _ _ hi (.putObj W2 _ hl rfl) (belowK_b (w:=w) (Nat.le_refl _) W2 (D+1) _ _ om hl rfl rfl)) ((World.putObj_heap_other om).trans hd)
end Go.Proofs.YtmflnpdmlfmcpaaGreatDoor
