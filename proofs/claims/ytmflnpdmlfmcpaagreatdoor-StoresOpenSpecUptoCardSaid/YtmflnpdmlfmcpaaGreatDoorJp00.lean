/- Joined texts. -/
import Derived.Test.YtmflnpdmlfmcpaaGreatDoorRows
import Derived.WalkKit
import Derived.WalkSpells
import Derived.WalkLawsBesides
import Derived.Laws.EntriesVeiled
import Derived.Handy
import Derived.RangeFuncRecord
import Derived.Laws.CopyOwn
import Derived.StillTailTactics
import Derived.RangeFuncBox
import Derived.Deep.OwnRows
import Derived.Deep.AppendLies
import Derived.OneCell
import Derived.Laws.BytesArg
import Derived.Deep.QuietTactic
import Derived.BigQuiet
import Derived.Orders
import Derived.Laws.BitsAllLaws
import Derived.RangeFuncNested
import Derived.RangeFuncBound
import Derived.RangeFuncCalls
import Derived.RangeFuncLeaves
import Derived.Shelf.Abstract
import Derived.Shelf.RegionOpen
import Derived.OwnWalkIn
import Derived.TacticsInMore
import Derived.LoopNIn
import Derived.LoopIn
import Derived.Laws.OwnMore
import Derived.Lib.AppendZerosOnto
set_option maxRecDepth 100000
set_option maxHeartbeats 4000000
namespace Go.Proofs.YtmflnpdmlfmcpaaGreatDoor
open Go.RowKit
abbrev zG : Array Value:=#[.int .u32 0,.int .u32 0,.int .u32 0,.int .u32 0,.int .u32 0,.int .u32 0,.int .u32 0,.int .u32 0,.int .u32 0,.int .u32 0,.int .u32 0,.int .u32 0,.int .u32 0,.int .u32 0,.int .u32 0,.int .u32 0,.int .u32 0,.int .u32 0,.int .u32 0,.int .u32 0,.int .u32 0,.int .u32 0,.int .u32 0,.int .u32 0,.int .u32 0,.int .u32 0,.int .u32 0,.int .u32 0,.int .u32 0,.int .u32 0,.int .u32 0,.int .u32 0,.int .u32 0,.int .u32 0,.int .u32 0,.int .u32 0,.int .u32 0,.int .u32 0,.int .u32 0,.int .u32 0,.int .u32 0,.int .u32 0,.int .u32 0,.int .u32 0,.int .u32 0,.int .u32 0,.int .u32 0,.int .u32 0,.int .u32 0,.int .u32 0,.int .u32 0,.int .u32 0,.int .u32 0,.int .u32 0,.int .u32 0,.int .u32 0,.int .u32 0,.int .u32 0,.int .u32 0,.int .u32 0,.int .u32 0,.int .u32 0,.int .u32 0,.int .u32 0]
abbrev zH : Array Value:=#[.int .i64 0,.int .i64 0,.int .u8 0,.int .u8 0,.int .u8 0,.int .u8 0,.int .u8 0,.int .u8 0,.int .u8 0,.int .u8 0,.int .u8 0,.int .u8 0,.int .u8 0,.int .u8 0,.int .u8 0,.int .u8 0,.int .u8 0,.int .u8 0,.int .u8 0,.int .u8 0,.int .u8 0,.int .u8 0,.int .u8 0,.int .u8 0,.int .u8 0,.int .u8 0,.int .u8 0,.int .u8 0,.int .u8 0,.int .u8 0,.int .u8 0,.int .u8 0,.int .u8 0,.int .u8 0,.slice none 0 0]
abbrev zI : Array Value:=#[.int .u8 0,.int .u8 0,.int .u8 0,.int .u8 0,.int .u8 0,.int .u8 0,.int .u8 0,.int .u8 0,.int .u8 0,.int .u8 0,.int .u8 0,.int .u8 0,.int .u8 0,.int .u8 0,.int .u8 0,.int .u8 0,.int .u8 0,.int .u8 0,.int .u8 0,.int .u8 0,.int .u8 0,.int .u8 0,.int .u8 0,.int .u8 0,.int .u8 0,.int .u8 0,.int .u8 0,.int .u8 0,.int .u8 0,.int .u8 0,.int .u8 0,.int .u8 0]
abbrev zJ : Array Value:=#[.int .u32 0,.int .u32 0,.int .u32 0,.int .u32 0,.int .u32 0,.int .u32 0,.int .u32 0,.int .u32 0]
abbrev zK : Array Value:=#[.slice none 0 0,.slice none 0 0,.int .i64 0,.bool false]
theorem zg.{uz}{α:Sort uz}(a:α):∃x,x=a:=⟨a,rfl⟩
theorem zA.{uz}{α:Type uz}(l:List α)(i:Nat)(a:α):l.toArray.setIfInBounds i a=(l.set i a).toArray:=List.setIfInBounds_toArray l i a
theorem zB.{uz}{α:Type uz}{x:α}{xs:List α}{i:Nat}{a:α}:(x::xs).set (i+1) a=x::xs.set i a:=rfl
theorem zC.{uz}{α:Type uz}{x:α}{xs:List α}{a:α}:(x::xs).set 0 a=a::xs:=rfl
theorem zD.{uz}{α:Type uz}{xs:List α}{i:Nat}(h:i<xs.toArray.size):xs.toArray[i]=xs[i]'(by simpa using h):=List.getElem_toArray h
theorem zE.{uz}{α:Type uz}(a:α)(xs:List α)(i:Nat)(h:i+1<(a::xs).length):(a::xs)[i+1]=xs[i]'(Nat.lt_of_succ_lt_succ h):=rfl
theorem zF.{uz}{α:Type uz}(a:α)(xs:List α)(h:0<(a::xs).length):(a::xs)[0]=a:=rfl
theorem kr {p:Prop}(h:p:=by kernel_rfl):p:=h
theorem om {p:Prop}(h:p:=by omega):p:=h
theorem zp.{uz}:(∀ {α:Type uz} (l:List α) (i:Nat) (a:α),l.toArray.setIfInBounds i a=(l.set i a).toArray)/\(∀ {α:Type uz} (x:α) (xs:List α) (i:Nat) (a:α),(x::xs).set (i+1) a=x::xs.set i a)/\(∀ {α:Type uz} (x:α) (xs:List α) (a:α),(x::xs).set 0 a=a::xs):=⟨fun l i a=>zA l i a,fun _ _ _ _=>rfl,fun _ _ _=>rfl⟩
theorem zP.{uz}:((∀ {α:Type uz} (l:List α) (i:Nat) (a:α),l.toArray.setIfInBounds i a=(l.set i a).toArray)/\(∀ {α:Type uz} (x:α) (xs:List α) (i:Nat) (a:α),(x::xs).set (i+1) a=x::xs.set i a)/\(∀ {α:Type uz} (x:α) (xs:List α) (a:α),(x::xs).set 0 a=a::xs))/\(∀ {α:Type uz} (l:List α) (i:Nat) (h:i<l.toArray.size),l.toArray[i]=l[i]'(by simpa using h))/\(∀ {α:Type uz} (a:α) (xs:List α) (i:Nat) (h:i+1<(a::xs).length),(a::xs)[i+1]=xs[i]'(Nat.lt_of_succ_lt_succ h))/\(∀ {α:Type uz} (a:α) (xs:List α) (h:0<(a::xs).length),(a::xs)[0]=a):=⟨zp,fun _ _ _=>by simp,fun _ _ _ _=>rfl,fun _ _ _=>rfl⟩
theorem aa {p:Prop}(h:p):Hid p:=h
theorem bK {a b:Bool}(h:a=b):Ending.returned (.bool a)=.returned (.bool b):=by rw[h]
theorem bY {k:IntKind}{a b:Int}(h:a=b):Ending.returned (.int k a)=.returned (.int k b):=by rw[h]
theorem ag {w w':World}(hb:Below w.heap.size w w'){p:Addr}{v:Value}(h:w.cell? p=some v):w'.cell? p=some v:=by
 rw[hb.cell (World.block_lt_of_cell? _ _ h)];exact h
theorem C4 {w w':World}(hb:Below w.heap.size w w'){p0:Addr}{v0:Value}{p1:Addr}{v1:Value}{p2:Addr}{v2:Value}(h:w.cell? p0=some v0/\w.cell? p1=some v1/\w.cell? p2=some v2):w'.cell? p0=some v0/\w'.cell? p1=some v1/\w'.cell? p2=some v2:=⟨ag hb h.1,ag hb h.2.1,ag hb h.2.2⟩
theorem B6 {w w':World}(hb:Below w.heap.size w w'){p0:Addr}{v0:Value}{p1:Addr}{v1:Value}{p2:Addr}{v2:Value}{p3:Addr}{v3:Value}(h:w.cell? p0=some v0/\w.cell? p1=some v1/\w.cell? p2=some v2/\w.cell? p3=some v3):w'.cell? p0=some v0/\w'.cell? p1=some v1/\w'.cell? p2=some v2/\w'.cell? p3=some v3:=⟨ag hb h.1,ag hb h.2.1,ag hb h.2.2.1,ag hb h.2.2.2⟩
theorem CQ {w w':World}(hb:Below w.heap.size w w'){p0:Addr}{v0:Value}{p1:Addr}{v1:Value}{p2:Addr}{v2:Value}{p3:Addr}{v3:Value}{p4:Addr}{v4:Value}{p5:Addr}{v5:Value}{p6:Addr}{v6:Value}(h:w.cell? p0=some v0/\w.cell? p1=some v1/\w.cell? p2=some v2/\w.cell? p3=some v3/\w.cell? p4=some v4/\w.cell? p5=some v5/\w.cell? p6=some v6):w'.cell? p0=some v0/\w'.cell? p1=some v1/\w'.cell? p2=some v2/\w'.cell? p3=some v3/\w'.cell? p4=some v4/\w'.cell? p5=some v5/\w'.cell? p6=some v6:=⟨ag hb h.1,ag hb h.2.1,ag hb h.2.2.1,ag hb h.2.2.2.1,ag hb h.2.2.2.2.1,ag hb h.2.2.2.2.2.1,ag hb h.2.2.2.2.2.2⟩
def Sl {α:Type}(k:Nat)(R:World->List Value->α->Prop)(w:World)(a:Option Addr)(n:Nat)(xs:List α):Prop:=
 xs.length=n/\(n=0\/∃b off,a=some ⟨b,off,none⟩/\∀i x,xs[i]? = some x->∃vs:List Value,vs.length=k/\R w vs x/\∀j v,vs[j]? = some v->w.cell? ⟨b,off+i*k+j,none⟩=some v)
def ju {α:Type}(R:World->List Value->α->Prop):Prop:=∀w w' vs x,Below w.heap.size w w'->R w vs x->R w' vs x
theorem Sl.below {α:Type}{k:Nat}{R:World->List Value->α->Prop}(hR:ju R){w w':World}{a:Option Addr}{n:Nat}{xs:List α}(h:Sl k R w a n xs)(hb:Below w.heap.size w w'):Sl k R w' a n xs:=by
 obtain⟨hl,h⟩:=h
 refine⟨hl,?_⟩
 rcases h with h|⟨b,off,ha,h⟩
 ·exact .inl h
 ·refine .inr ⟨b,off,ha,fun i x hx => ?_⟩
  obtain⟨vs,hk,hr,hc⟩:=h i x hx
  exact⟨vs,hk,hR _ _ _ _ hb hr,fun j v hv=>ag hb (hc j v hv)⟩
theorem Sl.len {α:Type}{k:Nat}{R:World->List Value->α->Prop}{w:World}{a:Option Addr}{n:Nat}{xs:List α}(h:Sl k R w a n xs):xs.length=n:=h.1
theorem Sl.nil {α:Type}(k:Nat)(R:World->List Value->α->Prop)(w:World)(a:Option Addr):Sl k R w a 0 ([]:List α):=⟨rfl,.inl rfl⟩
theorem Sl.at1 {α:Type}{R:World->List Value->α->Prop}{w:World}{a:Option Addr}{n:Nat}{xs:List α}(h:Sl 1 R w a n xs) :
  n=0\/∃b off,a=some ⟨b,off,none⟩/\∀i x,xs[i]? = some x->∃v,R w [v] x/\w.cell? ⟨b,off+i,none⟩=some v:=by
 rcases h.2 with h0|⟨b,off,ha,hc⟩
 ·exact .inl h0
 ·refine .inr ⟨b,off,ha,fun i x hx => ?_⟩
  obtain⟨vs,hk,hr,hv⟩:=hc i x hx
  match vs,hk with
  | [v],_=>exact⟨v,hr,by have:=hv 0 v rfl;simpa using this⟩
theorem Sl.at2 {α:Type}{R:World->List Value->α->Prop}{w:World}{a:Option Addr}{n:Nat}{xs:List α}(h:Sl 2 R w a n xs) :
  n=0\/∃b off,a=some ⟨b,off,none⟩/\∀i x,xs[i]? = some x->∃v u,R w [v,u] x/\w.cell? ⟨b,off+i*2,none⟩=some v/\w.cell? ⟨b,off+i*2+1,none⟩=some u:=by
 rcases h.2 with h0|⟨b,off,ha,hc⟩
 ·exact .inl h0
 ·refine .inr ⟨b,off,ha,fun i x hx => ?_⟩
  obtain⟨vs,hk,hr,hv⟩:=hc i x hx
  match vs,hk with
  | [v,u],_=>exact⟨v,u,hr,by have:=hv 0 v rfl;simpa using this,by have:=hv 1 u rfl;simpa using this⟩
theorem av {α:Type}{xs:List α}{n k:Nat}(hl:xs.length=n)(hk:k<n):∃x,xs[k]? = some x:=⟨_,List.getElem?_eq_getElem om⟩
def ai : World->List Value->UInt8->Prop:=fun _ vs x=>vs=[.int .u8 x.toNat]
theorem ai.keeps : ju ai:=fun _ _ _ _ _ h=>h
theorem Sl.bytes {w:World}{a:Option Addr}{n:Nat}{xs:List UInt8}(h:Sl 1 ai w a n xs) :
  n=0\/∃b off,a=some ⟨b,off,none⟩/\∀i x,xs[i]? = some x->w.cell? ⟨b,off+i,none⟩=some (.int .u8 x.toNat):=by
 rcases h.at1 with h0|⟨b,off,e,hc⟩
 ·exact .inl h0
 ·refine .inr ⟨b,off,e,fun i x hx => ?_⟩
  obtain⟨v,hv,hcell⟩:=hc i x hx
  obtain rfl:v=.int .u8 x.toNat:=by simpa[ai] using hv
  exact hcell
theorem cp {α:Type}(xs:List α)(k:Nat)(x:α)(hx:xs[k]? = some x):xs.take (k+1)=xs.take k++[x]:=by
 rw[List.take_add_one,hx];rfl
end Go.Proofs.YtmflnpdmlfmcpaaGreatDoor
namespace Go.Proofs.YtmflnpdmlfmcpaaGreatDoor
open Go.RowKit
variable {Nz : Nat}
def CH (Nz:Nat)(w:World)(b:Nat):Prop:=b<Nz\/∃C t fr,w.heap[b]? = some (.cells C t fr)/\(t=5\/t=40\/t=64)
def bO (Nz:Nat)(w:World)(a:Option Addr)(n:Nat):Prop:=n=0\/∀ad,a=some ad->ad.block<w.heap.size/\CH Nz w ad.block
theorem bO.below {w w':World}{a:Option Addr}{n:Nat}(h:bO Nz w a n)(hb:Below w.heap.size w w'):bO Nz w' a n:=by
 rcases h with h|h
 ·exact .inl h
 ·refine .inr fun ad e => ?_
  obtain⟨h1,h2⟩:=h ad e
  refine⟨Nat.lt_of_lt_of_le h1 hb.size,?_⟩
  rcases h2 with h2|⟨C,t,fr,h2,h3⟩
  ·exact .inl h2
  ·exact .inr ⟨C,t,fr,(hb.block _ h1).trans h2,h3⟩
theorem bO.zero (w:World)(a:Option Addr):bO Nz w a 0:=.inl rfl
theorem bO.nil (w:World)(n:Nat):bO Nz w none n:=.inr fun _ e=>by cases e
theorem bO.row {w:World}{g off n:Nat}{C:Array Value}{t:TypeId}{fr:Nat × Nat}(h:w.heap[g]? = some (.cells C t fr))(ht:t=5\/t=40\/t=64):bO Nz w (some ⟨g,off,none⟩) n:=
 .inr fun ad e=>by cases e;exact⟨(Array.getElem?_eq_some_iff.1 h).1,.inr ⟨C,t,fr,h,ht⟩⟩
theorem bO.box {w W:World}{a:Option Addr}{n X:Nat}{C:Array Value}{t:TypeId}{fr:Nat × Nat}(h:bO Nz w a n)(hX:Nz<=X)(hx:w.heap[X]? = some (.cells C t fr))(ht:t≠5/\t≠40/\t≠64)(hs:w.heap.size<=W.heap.size)(hW:∀b,b<w.heap.size->b≠X->W.heap[b]? = w.heap[b]?) :
  bO Nz W a n/\(n=0\/∀ad,a=some ad->ad.block≠X/\ad.block<w.heap.size):=by
 rcases h with h|h
 ·exact⟨.inl h,.inl h⟩
 ·have hne:∀ad,a=some ad->ad.block≠X:=by
   rintro ad e rfl
   rcases(h ad e).2 with h2|⟨C',t',fr',h2,h3⟩
   ·omega
   ·rw[hx]at h2
    simp only[Option.some.injEq,Obj.cells.injEq]at h2
    obtain⟨_,rfl,_⟩:=h2
    rcases h3 with h3|h3|h3
    ·exact ht.1 h3
    ·exact ht.2.1 h3
    ·exact ht.2.2 h3
  refine⟨.inr fun ad e => ?_,.inr fun ad e=>⟨hne ad e,(h ad e).1⟩⟩
  obtain⟨h1,h2⟩:=h ad e
  refine⟨Nat.lt_of_lt_of_le h1 hs,?_⟩
  rcases h2 with h2|⟨C',t',fr',h2,h3⟩
  ·exact .inl h2
  ·exact .inr ⟨C',t',fr',(hW _ h1 (hne ad e)).trans h2,h3⟩
def aN (Nz:Nat):World->List Value->List UInt8->Prop:=fun w vs bs=>∃a n c,vs=[.slice a n c]/\n<=maxLen/\n<=c/\Sl 1 ai w a n bs/\bO Nz w a n
theorem aN.keeps : ju (aN Nz):=by
 rintro w w' vs x hb ⟨a,n,c,rfl,h1,h2,h3,h4⟩
 exact⟨a,n,c,rfl,h1,h2,h3.below ai.keeps hb,h4.below hb⟩
def ie (Nz:Nat):World->List Value->Int × List UInt8->Prop:=fun w vs x=>∃a n c,vs=[.int .i64 x.1,.slice a n c]/\n<=maxLen/\n<=c/\Sl 1 ai w a n x.2/\bO Nz w a n
theorem ie.keeps : ju (ie Nz):=by
 rintro w w' vs x hb ⟨a,n,c,rfl,h1,h2,h3,h4⟩
 exact⟨a,n,c,rfl,h1,h2,h3.below ai.keeps hb,h4.below hb⟩
structure aj where
 secs:List (List UInt8)
 pend:List (Int × List UInt8)
 left:Int
 stopped:Bool
structure bF (Nz:Nat)(w:World)(a1:Option Addr)(n1 c1:Nat)(a2:Option Addr)(n2 c2:Nat)(d:aj):Prop where
 secs:Sl 1 (aN Nz) w a1 n1 d.secs
 pend:Sl 2 (ie Nz) w a2 n2 d.pend
 m1:n1<=maxLen
 m2:n2<=maxLen
 k1:n1<=c1
 k2:n2<=c2
 f1:bO Nz w a1 n1
 f2:bO Nz w a2 n2
theorem bF.below {w w':World}{a1:Option Addr}{n1 c1:Nat}{a2:Option Addr}{n2 c2:Nat}{d:aj}(h:bF Nz w a1 n1 c1 a2 n2 c2 d)(hb:Below w.heap.size w w'):bF Nz w' a1 n1 c1 a2 n2 c2 d:=
 ⟨h.secs.below aN.keeps hb,h.pend.below ie.keeps hb,h.m1,h.m2,h.k1,h.k2,h.f1.below hb,h.f2.below hb⟩
theorem Sl.agree {α:Type}{k:Nat}{R:World->List Value->α->Prop}{w W:World}{a:Option Addr}{n X:Nat}{xs:List α}(h:Sl k R w a n xs)(ha:n=0\/∀ad,a=some ad->ad.block≠X/\ad.block<w.heap.size)(hW:∀b,b<w.heap.size->b≠X->W.heap[b]? = w.heap[b]?)
  (hR:∀vs x,R w vs x->R W vs x):Sl k R W a n xs:=by
 obtain⟨hl,h⟩:=h
 refine⟨hl,?_⟩
 rcases h with h|⟨b,off,rfl,h⟩
 ·exact .inl h
 rcases ha with ha|ha
 ·exact .inl ha
 refine .inr ⟨b,off,rfl,fun i x hx => ?_⟩
 obtain⟨vs,h1,h2,h3⟩:=h i x hx
 obtain⟨h4,h5⟩:=ha _ rfl
 exact⟨vs,h1,hR _ _ h2,fun j v hv=>(World.cell?_of_block (a:=⟨b,off+i*k+j,none⟩) (hW b h5 h4)).trans (h3 j v hv)⟩
theorem bF.box {w W:World}{a1:Option Addr}{n1 c1:Nat}{a2:Option Addr}{n2 c2 X:Nat}{d:aj}{C:Array Value}{t:TypeId}{fr:Nat × Nat}(h:bF Nz w a1 n1 c1 a2 n2 c2 d)(hX:Nz<=X)(hx:w.heap[X]? = some (.cells C t fr))(ht:t≠5/\t≠40/\t≠64)(hs:w.heap.size<=W.heap.size)(hW:∀b,b<w.heap.size->b≠X->W.heap[b]? = w.heap[b]?):bF Nz W a1 n1 c1 a2 n2 c2 d:=by
 obtain⟨g1,q1⟩:=h.f1.box hX hx ht hs hW
 obtain⟨g2,q2⟩:=h.f2.box hX hx ht hs hW
 refine⟨h.secs.agree q1 hW ?_,h.pend.agree q2 hW ?_,h.m1,h.m2,h.k1,h.k2,g1,g2⟩
 ·rintro vs x ⟨a,n,c,rfl,p1,p2,p3,p4⟩
  obtain⟨p5,p6⟩:=p4.box hX hx ht hs hW
  exact⟨a,n,c,rfl,p1,p2,p3.agree p6 hW (fun _ _ h=>h),p5⟩
 ·rintro vs x ⟨a,n,c,rfl,p1,p2,p3,p4⟩
  obtain⟨p5,p6⟩:=p4.box hX hx ht hs hW
  exact⟨a,n,c,rfl,p1,p2,p3.agree p6 hW (fun _ _ h=>h),p5⟩
theorem aN.box {w W:World}{vs:List Value}{bs:List UInt8}{X:Nat}{C:Array Value}{t:TypeId}{fr:Nat × Nat}(h:aN Nz w vs bs)(hX:Nz<=X)(hx:w.heap[X]? = some (.cells C t fr))(ht:t≠5/\t≠40/\t≠64)(hs:w.heap.size<=W.heap.size)(hW:∀b,b<w.heap.size->b≠X->W.heap[b]? = w.heap[b]?):aN Nz W vs bs:=by
 obtain⟨a,n,c,rfl,p1,p2,p3,p4⟩:=h
 obtain⟨p5,p6⟩:=p4.box hX hx ht hs hW
 exact⟨a,n,c,rfl,p1,p2,p3.agree p6 hW (fun _ _ h=>h),p5⟩
def gN (n:Nat)(x:Int × List UInt8):Bool:=decide (x.1<0) || decide ((n:Int)<=x.1) || !decide (x.2.length=128)
def eq (b:List UInt8):Bool:=!decide (b.length=128)
def aj.okB (d:aj):Bool:=decide (1<=d.secs.length) && decide (d.secs.length<=4096) && decide (d.pend.length<=4096) && decide (-1<=d.left) && decide (d.left<=65536) && !d.pend.any (gN d.secs.length) && !d.secs.any eq
def aj.check (d:aj):Int:=if d.okB then 0 else 40
def aj.runs (d:aj):Bool:=d.okB && !d.stopped
theorem aj.check_bad {d:aj}(h:d.okB=false):d.check=40:=by simp[aj.check,h]
theorem aj.check_ok {d:aj}(h:d.okB=true):d.check=0:=by simp[aj.check,h]
theorem qI {α:Type}(p:α->Bool)(xs:List α)(k:Nat)(x:α)(hx:xs[k]? = some x)(ha:(xs.take k).any p=false)(hp:p x=false):(xs.take (k+1)).any p=false:=by
 rw[cp xs k x hx,List.any_append,ha]
 simp[hp]
theorem qJ {α:Type}(p:α->Bool)(xs:List α)(k:Nat)(x:α)(hx:xs[k]? = some x)(hp:p x=true):xs.any p=true:=by
 rw[List.any_eq_true]
 exact⟨x,List.mem_of_getElem? hx,hp⟩
theorem qK {α:Type}(p:α->Bool)(xs:List α)(k:Nat)(hk:xs.length<=k)(ha:(xs.take k).any p=false):xs.any p=false:=by
 rw[List.take_of_length_le hk]at ha;exact ha
theorem lm (a:Option Addr)(n c:Nat)(w:World) :
  Calls Tryz.prog 82 #[.slice a n c] w fun e w'=>e=.returned (.bool (decide (n=128)))/\w=w':=by
 go_enter Tryz.func82,Tryz.ntmps82
 go_wp2
 go_ret
 refine⟨?_,rfl⟩
 show Ending.returned (.bool ((n:Int) == 128))=_
 exact bK (by by_cases h:n=128<;>simp[h]<;>omega)
theorem xU (a:Option Addr)(n c:Nat)(w:World) :
  Calls Tryz.prog 85 #[.slice a n c] w fun e w'=>e=.returned (.bool (!decide (n=128)))/\w=w':=by
 go_enter Tryz.func85,Tryz.ntmps85
 go_wp2_with (go_at_call 82;refine(lm _ _ _ _).mono ?_;rintro e w' ⟨rfl,rfl⟩)
 go_ret
 exact⟨rfl,rfl⟩
theorem xV (x:Int)(a:Option Addr)(n c b N:Nat)(w:World)(_hN:N<=4096)(hb:w.cell? ⟨b,0,none⟩=some (.int .i64 N)) :
  Calls Tryz.prog 81 #[.agg #[.int .i64 x,.slice a n c],.pointer (some ⟨b,0,none⟩)] w fun e w'=>e=.returned (.bool (decide (x<0) || decide ((N:Int)<=x) || !decide (n=128)))/\Below w.heap.size w w':=by
 have hbl:b<w.heap.size:=World.block_lt_of_cell? _ _ hb
 go_enter Tryz.func81,Tryz.ntmps81
 by_cases h1:x<0
 ·go_wp2
  go_ret
  exact⟨bK (by simp[h1]),(Below.refl _ _).alloc (Nat.le_refl _) _⟩
 by_cases h2:(N:Int)<=x
 ·go_wp2
  go_ret
  exact⟨bK (by simp),(Below.refl _ _).alloc (Nat.le_refl _) _⟩
 ·go_wp2_with (go_at_call 82;refine(lm _ _ _ _).mono ?_;rintro e w' ⟨rfl,rfl⟩)
  go_ret
  exact⟨bK (by rw[decide_eq_false (show ¬x<0 by omega),decide_eq_false (show ¬(N:Int)<=x by omega)];rfl),(Below.refl _ _).alloc (Nat.le_refl _) _⟩
theorem tR (a:Option Addr)(n c:Nat)(xs:List (List UInt8))(w:World)(hn:n<=4096)(hc:Sl 1 (aN Nz) w a n xs) :
  Calls Tryz.prog 115 #[.slice a n c,.func (.func 85) #[] #[]] w fun e w'=>(∃i:Int,e=.returned (.int .i64 i)/\decide (0<=i)=xs.any eq)/\w=w':=by
 have HL:=aa hc.len
 rcases hc.at1 with h0|⟨b,off,rfl,hc2⟩
 ·obtain rfl:=h0
  clear hc
  go_enter Tryz.func115,Tryz.ntmps115
  go_wp2
  refine wp_loop_rounds 1 ?_
  rw[rounds_succ]
  go_wp2
  go_ret
  exact⟨⟨_,rfl,by have:=HL.out;simp at this;simp[this]⟩,rfl⟩
 clear hc
 go_enter Tryz.func115,Tryz.ntmps115
 go_wp2
 go_loop [8] (fun i=>∃k:Nat,k<=n/\i=.int .i64 k/\(xs.take k).any eq=false) (fun i=>n-(intOf i).toNat)
 case atStart=>exact⟨0,Nat.zero_le _,rfl,by simp⟩
 case round =>
  obtain⟨k,hk,rfl,ha⟩:=hrel
  have HA:=aa ha
  clear ha
  by_cases hlt:k<n
  ·obtain⟨x,hx⟩:=av HL.out hlt
   obtain⟨v,⟨xa,xn,xc,hv,_,_,hxs,_⟩,hcell⟩:=hc2 k x hx
   obtain rfl:v=.slice xa xn xc:=by simpa using hv
   have HX:=aa hx
   have hl:Hid (eq x = !decide (xn=128)):=by unfold eq;rw[hxs.len];rfl
   clear hx hc2 hv hxs
   go_wp2_with (go_at_call 85;refine(xU _ _ _ _).mono ?_;rintro e w' ⟨rfl,rfl⟩)
   ·go_ret
    exact⟨⟨_,rfl,by rw[qJ eq xs k x HX.out (by rw[hl.out];assumption)];simp⟩,rfl⟩
   ·go_round
    case rel=>exact⟨k+1,om,by go_num,qI eq xs k x HX.out HA.out (by rw[hl.out];assumption)⟩
    case measure=>simp[intOf];omega
  ·clear hc2
   go_wp2
   go_ret
   exact⟨⟨_,rfl,by rw[qK eq xs k (by have:=HL.out;omega) HA.out];rfl⟩,rfl⟩
theorem Sl.writes {w:World}{a:Option Addr}{n:Nat}{xs:List (Int × List UInt8)}(h:Sl 2 (ie Nz) w a n xs) :
  n=0\/∃b off,a=some ⟨b,off,none⟩/\∀i x,xs[i]? = some x->∃xa xn xc,xn<=maxLen/\xn<=xc/\Sl 1 ai w xa xn x.2/\w.cell? ⟨b,off+i*2,none⟩=some (.int .i64 x.1)/\w.cell? ⟨b,off+i*2+1,none⟩=some (.slice xa xn xc):=by
 rcases h.at2 with h|⟨b,off,rfl,h0⟩
 ·exact .inl h
 ·refine .inr ⟨b,off,rfl,fun i x hx => ?_⟩
  obtain⟨u,v,⟨xa,xn,xc,he,h1,h2,h3,_⟩,h4,h5⟩:=h0 i x hx
  simp only[List.cons.injEq,and_true]at he
  obtain⟨rfl,rfl⟩:=he
  exact⟨xa,xn,xc,h1,h2,h3,h4,h5⟩
theorem Sl.secs {w:World}{a:Option Addr}{n:Nat}{xs:List (List UInt8)}(h:Sl 1 (aN Nz) w a n xs) :
  n=0\/∃b off,a=some ⟨b,off,none⟩/\∀i x,xs[i]? = some x->∃xa xn xc,xn<=maxLen/\xn<=xc/\Sl 1 ai w xa xn x/\w.cell? ⟨b,off+i,none⟩=some (.slice xa xn xc):=by
 rcases h.at1 with h|⟨b,off,rfl,h0⟩
 ·exact .inl h
 ·refine .inr ⟨b,off,rfl,fun i x hx => ?_⟩
  obtain⟨u,⟨xa,xn,xc,he,h1,h2,h3,_⟩,h4⟩:=h0 i x hx
  simp only[List.cons.injEq,and_true]at he
  subst he
  exact⟨xa,xn,xc,h1,h2,h3,h4⟩
theorem xW {w:World}{b off n:Nat}{xs:List (List UInt8)}{i:Nat}{x:List UInt8}{u:Value}(h:Sl 1 (aN Nz) w (some ⟨b,off,none⟩) n xs)(hx:xs[i]? = some x)(hc:w.cell? ⟨b,off+i,none⟩=some u):aN Nz w [u] x:=by
 rcases h.at1 with h0|⟨b',off',e,h0⟩
 ·have:=(List.getElem?_eq_some_iff.1 hx).1
  have:=h.len
  omega
 ·cases e
  obtain⟨v,h1,h2⟩:=h0 i x hx
  rw[hc]at h2
  cases h2
  exact h1
theorem ti {w:World}{b off n:Nat}{xs:List (Int × List UInt8)}{i:Nat}{x:Int × List UInt8}{u:Value}(h:Sl 2 (ie Nz) w (some ⟨b,off,none⟩) n xs)(hx:xs[i]? = some x)(hc:w.cell? ⟨b,off+i*2+1,none⟩=some u):aN Nz w [u] x.2:=by
 rcases h.at2 with h0|⟨b',off',e,h0⟩
 ·have:=(List.getElem?_eq_some_iff.1 hx).1
  have:=h.len
  omega
 ·cases e
  obtain⟨v0,v,⟨xa,xn,xc,he,h1,h2,h3,h4⟩,_,h5⟩:=h0 i x hx
  rw[hc]at h5
  cases h5
  simp only[List.cons.injEq,and_true]at he
  exact⟨xa,xn,xc,by rw[he.2],h1,h2,h3,h4⟩
theorem tS (a:Option Addr)(n c p N:Nat)(xs:List (Int × List UInt8))(w:World)(hn:n<=4096)(hN:N<=4096)(hc:Sl 2 (ie Nz) w a n xs)(hp:w.cell? ⟨p,0,none⟩=some (.int .i64 N)) :
  Calls Tryz.prog 114 #[.slice a n c,.func (.func 81) #[] #[.pointer (some ⟨p,0,none⟩)]] w fun e w'=>(∃i:Int,e=.returned (.int .i64 i)/\decide (0<=i)=xs.any (gN N))/\Below w.heap.size w w':=by
 have HL:=aa hc.len
 have hpl:p<w.heap.size:=World.block_lt_of_cell? _ _ hp
 rcases hc.writes with h0|⟨b,off,rfl,hc2⟩
 ·obtain rfl:=h0
  clear hc
  go_enter Tryz.func114,Tryz.ntmps114
  go_wp2
  refine wp_loop_rounds 1 ?_
  rw[rounds_succ]
  go_wp2
  go_ret
  exact⟨⟨_,rfl,by have:=HL.out;simp at this;simp[this]⟩,Below.refl _ _⟩
 clear hc
 go_enter Tryz.func114,Tryz.ntmps114
 go_wp2
 go_loopw [8] (fun i wr=>∃k:Nat,k<=n/\i=.int .i64 k/\(xs.take k).any (gN N)=false/\Below w.heap.size w wr) (fun i _=>n-(intOf i).toNat)
 case atStart=>exact⟨0,Nat.zero_le _,rfl,by simp,Below.refl _ _⟩
 case round =>
  obtain⟨k,hk,rfl,ha,hB⟩:=hrel
  have HA:=aa ha
  clear ha
  by_cases hlt:k<n
  ·obtain⟨x,hx⟩:=av HL.out hlt
   obtain⟨xa,xn,xc,_,_,hxs,hc0,hc1⟩:=hc2 k x hx
   have HX:=aa hx
   have hl:Hid (gN N x=(decide (x.1<0) || decide ((N:Int)<=x.1) || !decide (xn=128))):=by unfold gN;rw[hxs.len];rfl
   have e0:=ag hB hc0
   have e1:=ag hB hc1
   have e2:=ag hB hp
   have hwr:=hB.size
   obtain⟨z,hz⟩:=zg x.1
   rw[<-hz]at e0 hl
   clear hx hc2 hc0 hc1 hxs hz hp
   go_wp2_with (go_at_call 81;refine(xV _ _ _ _ p N _ hN e2).mono ?_;rintro e w' ⟨rfl,hB1⟩;try intro hB1)
   ·go_ret
    exact⟨⟨_,rfl,by rw[qJ (gN N) xs k x HX.out (by rw[hl.out];simp_all)];simp⟩,hB.trans (hB1.mono hwr)⟩
   ·go_roundw
    case rel=>exact⟨k+1,om,by go_num,qI (gN N) xs k x HX.out HA.out (by rw[hl.out];simp_all),hB.trans (hB1.mono hwr)⟩
    case measure=>simp[intOf];omega
  ·clear hc2
   go_wp2
   go_ret
   exact⟨⟨_,rfl,by rw[qK (gN N) xs k (by have:=HL.out;omega) HA.out];rfl⟩,hB⟩
theorem xX (a:Option Addr)(n c:Nat)(xs:List (List UInt8))(w:World)(hn:n<=4096)(hc:Sl 1 (aN Nz) w a n xs) :
  Calls Tryz.prog 84 #[.slice a n c,.func (.func 85) #[] #[]] w fun e w'=>e=.returned (.bool (xs.any eq))/\w=w':=by
 go_enter Tryz.func84,Tryz.ntmps84
 go_wp2_with fail
 refine(tR a n c xs w hn hc).mono ?_
 rintro e w' ⟨⟨i,rfl,hi⟩,rfl⟩
 have HI:=aa hi
 clear hi
 go_wp2
 go_ret
 exact⟨bK HI.out,rfl⟩
theorem xY (a:Option Addr)(n c p N:Nat)(xs:List (Int × List UInt8))(w:World)(hn:n<=4096)(hN:N<=4096)(hc:Sl 2 (ie Nz) w a n xs)(hp:w.cell? ⟨p,0,none⟩=some (.int .i64 N)) :
  Calls Tryz.prog 83 #[.slice a n c,.func (.func 81) #[] #[.pointer (some ⟨p,0,none⟩)]] w fun e w'=>e=.returned (.bool (xs.any (gN N)))/\Below w.heap.size w w':=by
 go_enter Tryz.func83,Tryz.ntmps83
 go_wp2_with fail
 refine(tS a n c p N xs w hn hN hc hp).mono ?_
 rintro e w' ⟨⟨i,rfl,hi⟩,hB⟩
 have HI:=aa hi
 clear hi
 go_wp2
 go_ret
 exact⟨bK HI.out,hB⟩
end Go.Proofs.YtmflnpdmlfmcpaaGreatDoor
namespace Go.Proofs.YtmflnpdmlfmcpaaGreatDoor
open Go.RowKit
variable {Nz : Nat}
theorem gI (a1:Option Addr)(n1 c1:Nat)(a2:Option Addr)(n2 c2:Nat)(d:aj)(w:World)(h:bF Nz w a1 n1 c1 a2 n2 c2 d) :
  Calls Tryz.prog 45 #[.agg #[.slice a1 n1 c1,.slice a2 n2 c2,.int .i64 d.left,.bool d.stopped]] w fun e w'=>e=.returned (.int .i64 d.check)/\Below w.heap.size w w':=by
 have L1:=aa h.secs.len
 have L2:=aa h.pend.len
 have m1:=h.m1
 have m2:=h.m2
 unfold maxLen at m1 m2
 have HS:∀W,Below w.heap.size w W->n1<=4096->Hid (Calls Tryz.prog 84 #[.slice a1 n1 c1,.func (.func 85) #[] #[]] W fun e w'=>e=.returned (.bool (d.secs.any eq))/\W=w'):=fun W hW h1=>xX a1 n1 c1 d.secs W h1 (h.secs.below aN.keeps hW)
 have HP:∀W p,Below w.heap.size w W->n1<=4096->n2<=4096->W.cell? ⟨p,0,none⟩=some (.int .i64 n1)->Hid (Calls Tryz.prog 83 #[.slice a2 n2 c2,.func (.func 81) #[] #[.pointer (some ⟨p,0,none⟩)]] W fun e w'=>e=.returned (.bool (d.pend.any (gN n1)))/\Below W.heap.size W w'):=
  fun W p hW h1 h2 hp=>xY a2 n2 c2 p n1 d.pend W h2 h1 (h.pend.below ie.keeps hW) hp
 have hsz:Hid (∀x y,Below w.heap.size w ((w.alloc x).alloc y)):=fun x y=>((Below.refl _ _).alloc (Nat.le_refl _) _).alloc (by simp) _
 have ho:Hid (d.okB=(decide (1<=n1) && decide (n1<=4096) && decide (n2<=4096) && decide (-1<=d.left) && decide (d.left<=65536) && !d.pend.any (gN n1) && !d.secs.any eq)):=by
  unfold aj.okB
  rw[L1.out,L2.out]
  rfl
 clear h
 by_cases h1:1<=n1
 ·by_cases h2:n1<=4096
  ·by_cases h3:n2<=4096
   ·by_cases h4 : -1<=d.left
    ·by_cases h5:d.left<=65536
     ·go_enter Tryz.func45,Tryz.ntmps45
      cases hp:d.pend.any (gN n1)
      ·rw[hp]at HP
       have hC0:d.check=bif d.secs.any eq then 40 else 0:=by
        unfold aj.check
        rw[ho.out,hp]
        cases d.secs.any eq<;>simp[h1,h2,h3,h4,h5]
       cases hq:d.secs.any eq
       all_goals
        rw[hq]at HS hC0
        have hC:=aa hC0
        clear hp hq hC0
        go_wp2_with fail
        refine(HP _ _ (by exact hsz.out _ _) h2 h3 (by simp)).out.mono ?_
        rintro e w' ⟨rfl,hB⟩
        have hB1:=(hsz.out _ _).trans (hB.mono (by simp;omega))
        have b0:w'.cell? ⟨w.heap.size,0,none⟩=some (.slice a1 n1 c1):=ag hB (by simp)
        clear hB
        go_wp2_with fail
        refine(HS _ hB1 h2).out.mono ?_
        rintro e w' ⟨rfl,rfl⟩
        go_wp2
        go_ret
        exact⟨bY (by rw[hC.out];rfl),hB1⟩
      ·rw[hp]at HP
       have hC:Hid (d.check=40):=aj.check_bad (by rw[ho.out,hp];simp)
       clear hp
       go_wp2_with fail
       refine(HP _ _ (by exact hsz.out _ _) h2 h3 (by simp)).out.mono ?_
       rintro e w' ⟨rfl,hB⟩
       have hB1:=(hsz.out _ _).trans (hB.mono (by simp;omega))
       go_wp2
       go_ret
       exact⟨bY (by rw[hC.out]),hB1⟩
     ·have hC:Hid (d.check=40):=aj.check_bad (by rw[ho.out];simp[h5])
      generalize d.left=dl at *
      go_enter Tryz.func45,Tryz.ntmps45
      go_wp2
      go_ret
      exact⟨bY (by rw[hC.out]),hsz.out _ _⟩
    ·have hC:Hid (d.check=40):=aj.check_bad (by rw[ho.out];simp[h4])
     generalize d.left=dl at *
     go_enter Tryz.func45,Tryz.ntmps45
     go_wp2
     go_ret
     exact⟨bY (by rw[hC.out]),hsz.out _ _⟩
   ·have hC:Hid (d.check=40):=aj.check_bad (by rw[ho.out];simp[h3])
    go_enter Tryz.func45,Tryz.ntmps45
    go_wp2
    go_ret
    exact⟨bY (by rw[hC.out]),hsz.out _ _⟩
  ·have hC:Hid (d.check=40):=aj.check_bad (by rw[ho.out];simp[h2])
   go_enter Tryz.func45,Tryz.ntmps45
   go_wp2
   go_ret
   exact⟨bY (by rw[hC.out]),hsz.out _ _⟩
 ·have hC:Hid (d.check=40):=aj.check_bad (by rw[ho.out];simp[h1])
  go_enter Tryz.func45,Tryz.ntmps45
  go_wp2
  go_ret
  exact⟨bY (by rw[hC.out]),hsz.out _ _⟩
theorem kC (a1:Option Addr)(n1 c1:Nat)(a2:Option Addr)(n2 c2:Nat)(d:aj)(w:World)(h:bF Nz w a1 n1 c1 a2 n2 c2 d) :
  Calls Tryz.prog 86 #[.agg #[.slice a1 n1 c1,.slice a2 n2 c2,.int .i64 d.left,.bool d.stopped]] w fun e w'=>e=.returned (.bool d.runs)/\Below w.heap.size w w':=by
 have H:=aa h
 clear h
 go_enter Tryz.func86,Tryz.ntmps86
 have hB0:∀x,Below w.heap.size w (w.alloc x):=fun x=>(Below.refl _ _).alloc (Nat.le_refl _) x
 go_wp2_with fail
 refine(gI _ _ _ _ _ _ _ _ (H.out.below (hB0 _))).mono ?_
 rintro e w' ⟨rfl,hB⟩
 have b3:w'.cell? ⟨w.heap.size,3,none⟩=some (.bool d.stopped):=ag hB (by simp)
 have hB1:=(hB0 _).trans (hB.mono (by simp))
 clear hB
 have hr:Hid (d.runs=(decide (d.check=0) && !d.stopped)):=by
  unfold aj.runs aj.check
  cases d.okB<;>simp[Hid]
 generalize d.check=er at *
 generalize d.stopped=st at *
 by_cases h0:er=0
 ·subst h0
  go_wp2
  go_ret
  exact⟨bK (by rw[hr.out];simp),hB1⟩
 ·go_wp2
  go_ret
  exact⟨bK (by rw[hr.out];simp[h0]),hB1⟩
theorem Ad (a1:Option Addr)(n1 c1:Nat)(a2:Option Addr)(n2 c2:Nat)(l:Int)(st:Bool)(i:Int)(w:World)(_m1:n1<=maxLen) :
  Calls Tryz.prog 87 #[.agg #[.slice a1 n1 c1,.slice a2 n2 c2,.int .i64 l,.bool st],.int .i64 i] w fun e w'=>e=.returned (.bool (decide (0<=i) && decide (i<n1)))/\Below w.heap.size w w':=by
 have hB0:∀x,Below w.heap.size w (w.alloc x):=fun x=>(Below.refl _ _).alloc (Nat.le_refl _) x
 unfold maxLen at _m1
 go_enter Tryz.func87,Tryz.ntmps87
 by_cases h0:0<=i
 ·go_wp2
  go_ret
  exact⟨bK (by simp[h0]),hB0 _⟩
 ·go_wp2
  go_ret
  exact⟨bK (by simp;omega),hB0 _⟩
end Go.Proofs.YtmflnpdmlfmcpaaGreatDoor
namespace Go.Proofs.YtmflnpdmlfmcpaaGreatDoor
open Go.RowKit
variable {Nz : Nat}
theorem DM (d:aj)(n1 n2:Nat)(h1:d.secs.length=n1)(h2:d.pend.length=n2):d.okB=(decide (1<=n1) && decide (n1<=4096) && decide (n2<=4096) && decide (-1<=d.left) && decide (d.left<=65536) && !d.pend.any (gN n1) && !d.secs.any eq):=by
 unfold aj.okB
 rw[h1,h2]
theorem n6 (a1:Option Addr)(n1 c1:Nat)(a2:Option Addr)(n2 c2:Nat)(d:aj)(w:World)(h:bF Nz w a1 n1 c1 a2 n2 c2 d) :
  Calls Tryz.prog 62 #[.agg #[.slice a1 n1 c1,.slice a2 n2 c2,.int .i64 d.left,.bool d.stopped]] w fun e w'=>e=.returned (.int .i64 d.check)/\Below w.heap.size w w':=by
 have L1:=aa h.secs.len
 have L2:=aa h.pend.len
 have m1:=h.m1
 have m2:=h.m2
 have hc1:=h.secs.secs
 have hc2:=h.pend.writes
 unfold maxLen at m1 m2
 have ho:=aa (DM d n1 n2 L1.out L2.out)
 have hB0:Hid (∀x,Below w.heap.size w (w.alloc x)):=fun x=>(Below.refl _ _).alloc (Nat.le_refl _) x
 clear h
 by_cases hg:1<=n1/\n1<=4096/\n2<=4096 /\ -1<=d.left/\d.left<=65536
 ·obtain⟨h1,h2,h3,h4,h5⟩:=hg
  have hck:Hid (∀b,d.okB=b->d.check=if b then 0 else 40):=fun b hb=>by subst hb;rfl
  have ho2:Hid (d.okB=(!d.pend.any (gN n1) && !d.secs.any eq)):=by
   show d.okB=_
   rw[ho.out];simp[h1,h2,h3,h4,h5]
  clear ho
  generalize d.left=dl at *
  rcases hc1 with h0|⟨b1,o1,rfl,hc1⟩
  ·omega
  go_enter Tryz.func62,Tryz.ntmps62
  go_wp2
  go_loop [4] (fun i=>∃k:Nat,k<=n1/\i=.int .i64 k/\(d.secs.take k).any eq=false) (fun i=>n1-(intOf i).toNat)
  case atStart=>exact⟨0,Nat.zero_le _,rfl,by simp⟩
  case round =>
   obtain⟨k,hk,rfl,ha⟩:=hrel
   have HA:=aa ha
   clear ha
   by_cases hlt:k<n1
   ·obtain⟨x,hx⟩:=av L1.out hlt
    obtain⟨xa,xn,xc,_,_,hxs,hcell⟩:=hc1 k x hx
    have HX:=aa hx
    have hl:Hid (eq x = !decide (xn=128)):=by unfold eq;rw[hxs.len];rfl
    have hb1:b1<w.heap.size:=World.block_lt_of_cell? _ _ hcell
    clear hx hc1 hc2 hxs
    by_cases h128:xn=128
    ·subst h128
     go_wp2
     go_round
     case rel=>exact⟨k+1,om,by go_num,qI eq d.secs k x HX.out HA.out (by rw[hl.out];simp)⟩
     case measure=>simp[intOf];omega
    ·go_wp2
     go_ret
     exact⟨bY (by rw[hck.out false (by rw[ho2.out,qJ eq d.secs k x HX.out (by rw[hl.out];simp[h128])];simp)];rfl),hB0.out _⟩
   ·have hs:Hid (d.secs.any eq=false):=qK eq d.secs k (by have:=L1.out;omega) HA.out
    clear hc1 HA
    go_wp2
    rcases hc2 with h0|⟨b2,o2,rfl,hc2⟩
    ·obtain rfl:=h0
     refine wp_loop_rounds 1 ?_
     rw[rounds_succ]
     go_wp2
     go_ret
     exact⟨bY (by rw[hck.out true (by rw[ho2.out,hs.out,List.eq_nil_of_length_eq_zero L2.out];rfl)];rfl),hB0.out _⟩
    go_loopw [5] (fun i wr=>∃k:Nat,k<=n2/\i=.int .i64 k/\(d.pend.take k).any (gN n1)=false/\Below w.heap.size w wr/\wr.cell? ⟨w.heap.size,1,none⟩=some (.slice (some ⟨b2,o2,none⟩) n2 c2)) (fun i _=>n2-(intOf i).toNat)
    case atStart=>exact⟨0,Nat.zero_le _,rfl,by simp,hB0.out _,by simp⟩
    case round =>
     obtain⟨k2,hk2,rfl,ha,hB,e3⟩:=hrel
     have HA2:=aa ha
     clear ha
     by_cases hlt2:k2<n2
     ·obtain⟨x,hx⟩:=av L2.out hlt2
      obtain⟨xa,xn,xc,hxm,_,hxs,hd0,hd1⟩:=hc2 k2 x hx
      unfold maxLen at hxm
      have HX:=aa hx
      have hl:Hid (gN n1 x=(decide (x.1<0) || decide ((n1:Int)<=x.1) || !decide (xn=128))):=by unfold gN;rw[hxs.len];rfl
      have e0:=ag hB hd0
      have e1:=ag hB hd1
      have hb2:b2<wr.heap.size:=World.block_lt_of_cell? _ _ e0
      have hwr:=hB.size
      have hws:w.heap.size<wr.heap.size:=World.block_lt_of_cell? _ _ e3
      obtain⟨z,hz⟩:=zg x.1
      rw[<-hz]at e0 hl
      clear hx hc2 hd0 hd1 hxs hz
      have hBn:Hid (∀x,Below w.heap.size w (wr.alloc x)):=fun x=>hB.alloc hwr x
      have hstop:Hid (gN n1 x=true->d.check=40):=fun hb=>hck.out false (by rw[ho2.out,qJ (gN n1) d.pend k2 x HX.out hb];simp)
      by_cases g1:z<0
      ·go_wp2
       go_ret
       exact⟨bY (by rw[hstop.out (by rw[hl.out];simp[g1])]),hBn.out _⟩
      by_cases g2:(n1:Int)<=z
      ·go_wp2
       go_ret
       exact⟨bY (by rw[hstop.out (by rw[hl.out];simp[g2])]),hBn.out _⟩
      by_cases g3:xn=128
      ·subst g3
       go_wp2
       go_roundw
       case rel=>exact⟨k2+1,om,by go_num,qI (gN n1) d.pend k2 x HX.out HA2.out (by rw[hl.out];simp;omega),hBn.out _,ag ((Below.refl _ _).alloc (Nat.le_refl _) _) e3⟩
       case measure=>simp[intOf];omega
      ·go_wp2
       go_ret
       exact⟨bY (by rw[hstop.out (by rw[hl.out];simp[g3])]),hBn.out _⟩
     ·clear hc2
      go_wp2
      go_ret
      exact⟨bY (by rw[hck.out true (by rw[ho2.out,hs.out,qK (gN n1) d.pend k2 (by have:=L2.out;omega) HA2.out];rfl)];rfl),hB⟩
 ·have hC:Hid (d.check=40):=aj.check_bad (by rw[ho.out];simp;omega)
  generalize d.left=dl at *
  clear ho hc1 hc2
  by_cases h1:1<=n1
  ·by_cases h2:n1<=4096
   ·by_cases h3:n2<=4096
    ·by_cases h4 : -1<=dl
     all_goals
      go_enter Tryz.func62,Tryz.ntmps62
      go_wp2
      go_ret
      exact⟨bY (by rw[hC.out]),hB0.out _⟩
    ·go_enter Tryz.func62,Tryz.ntmps62
     go_wp2
     go_ret
     exact⟨bY (by rw[hC.out]),hB0.out _⟩
   ·go_enter Tryz.func62,Tryz.ntmps62
    go_wp2
    go_ret
    exact⟨bY (by rw[hC.out]),hB0.out _⟩
  ·go_enter Tryz.func62,Tryz.ntmps62
   go_wp2
   go_ret
   exact⟨bY (by rw[hC.out]),hB0.out _⟩
def eJ (Nz:Nat)(w:World)(v:Value)(d:aj):Prop:=∃a1 n1 c1 a2 n2 c2,v=.agg #[.slice a1 n1 c1,.slice a2 n2 c2,.int .i64 d.left,.bool d.stopped]/\bF Nz w a1 n1 c1 a2 n2 c2 d
theorem eJ.below {w w':World}{v:Value}{d:aj}(h:eJ Nz w v d)(hb:Below w.heap.size w w'):eJ Nz w' v d:=by
 obtain⟨a1,n1,c1,a2,n2,c2,rfl,h⟩:=h
 exact⟨a1,n1,c1,a2,n2,c2,rfl,h.below hb⟩
def aj.zero : aj:=⟨[],[],0,false⟩
theorem ge (w:World):eJ Nz w (.agg zK) aj.zero:=
 ⟨none,0,0,none,0,0,rfl,Sl.nil _ _ _ _,Sl.nil _ _ _ _,by unfold maxLen;omega,by unfold maxLen;omega,Nat.le_refl _,Nat.le_refl _,bO.zero _ _,bO.zero _ _⟩
def aj.restart (d:aj):aj:=⟨d.secs,[],-1,false⟩
end Go.Proofs.YtmflnpdmlfmcpaaGreatDoor
namespace Go.Proofs.YtmflnpdmlfmcpaaGreatDoor
open Go.RowKit
variable {Nz : Nat}
theorem Ct {w w':World}{b:Nat}{v0:Value}{t:TypeId}(hB:Below w.heap.size w w')(h:w.heap[b]? = some (.cells #[v0] t (0,0))) :
  b<w'.heap.size/\w'.cell? ⟨b,0,none⟩=some v0/\(w'.cell? ⟨b,0,none⟩).isSome=true/\w'.frozen? ⟨b,0,none⟩=false:=by
 have h':w'.heap[b]? = some (.cells #[v0] t (0,0)):=(hB.block b (Array.getElem?_eq_some_iff.1 h).1).trans h
 exact⟨(Array.getElem?_eq_some_iff.1 h').1,by simp[World.cell?,h'],by simp[World.cell?,h'],by simp[World.frozen?,h']⟩
theorem Bp {w w':World}{b:Nat}{v0 v1:Value}{t:TypeId}(hB:Below w.heap.size w w')(h:w.heap[b]? = some (.cells #[v0,v1] t (0,0))) :
  b<w'.heap.size/\w'.cell? ⟨b,0,none⟩=some v0/\w'.cell? ⟨b,1,none⟩=some v1/\(w'.cell? ⟨b,0,none⟩).isSome=true/\(w'.cell? ⟨b,1,none⟩).isSome=true/\w'.frozen? ⟨b,0,none⟩=false/\w'.frozen? ⟨b,1,none⟩=false:=by
 have h':w'.heap[b]? = some (.cells #[v0,v1] t (0,0)):=(hB.block b (Array.getElem?_eq_some_iff.1 h).1).trans h
 exact⟨(Array.getElem?_eq_some_iff.1 h').1,by simp[World.cell?,h'],by simp[World.cell?,h'],by simp[World.cell?,h'],by simp[World.cell?,h'],by simp[World.frozen?,h'],by simp[World.frozen?,h']⟩
theorem aF {w w':World}{b:Nat}{v0 v1 v2 v3:Value}{t:TypeId}(hB:Below w.heap.size w w')(h:w.heap[b]? = some (.cells #[v0,v1,v2,v3] t (0,0))) :
  b<w'.heap.size/\w'.cell? ⟨b,0,none⟩=some v0/\w'.cell? ⟨b,1,none⟩=some v1/\w'.cell? ⟨b,2,none⟩=some v2/\w'.cell? ⟨b,3,none⟩=some v3 /\
  ((w'.cell? ⟨b,0,none⟩).isSome=true/\(w'.cell? ⟨b,1,none⟩).isSome=true/\(w'.cell? ⟨b,2,none⟩).isSome=true/\(w'.cell? ⟨b,3,none⟩).isSome=true) /\
  w'.frozen? ⟨b,0,none⟩=false/\w'.frozen? ⟨b,1,none⟩=false/\w'.frozen? ⟨b,2,none⟩=false/\w'.frozen? ⟨b,3,none⟩=false:=by
 have h':w'.heap[b]? = some (.cells #[v0,v1,v2,v3] t (0,0)):=(hB.block b (Array.getElem?_eq_some_iff.1 h).1).trans h
 exact⟨(Array.getElem?_eq_some_iff.1 h').1,by simp[World.cell?,h'],by simp[World.cell?,h'],by simp[World.cell?,h'],by simp[World.cell?,h'],
  ⟨by simp[World.cell?,h'],by simp[World.cell?,h'],by simp[World.cell?,h'],by simp[World.cell?,h']⟩,by simp[World.frozen?,h'],by simp[World.frozen?,h'],by simp[World.frozen?,h'],by simp[World.frozen?,h']⟩
theorem ak {w:World}{n:Nat}(o:Obj)(h:n=w.heap.size):(w.alloc o).heap[n]? = some o:=by subst h;show (w.heap.push o)[w.heap.size]? = some o;simp
theorem aB {w:World}{n:Nat}{o:Obj}(o':Obj)(h:w.heap[n]? = some o):(w.alloc o').heap[n]? = some o:=(Below.heap_alloc w o' n (Array.getElem?_eq_some_iff.1 h).1).trans h
end Go.Proofs.YtmflnpdmlfmcpaaGreatDoor
namespace Go.Proofs.YtmflnpdmlfmcpaaGreatDoor
open Go.RowKit
theorem ld (x:Nat)(hx:x<4294967296):bits .and .u64 (x:Int) 4294967295=(x:Int):=by
 show IntKind.u64.wrap ((BitVec.ofInt 64 (x:Int) &&& BitVec.ofInt 64 4294967295).toNat:Int)=_
 rw[BitVec.toNat_and,BitVec.ofInt_natCast,BitVec.toNat_ofNat]
 have h1:(BitVec.ofInt 64 4294967295).toNat=2 ^ 32-1:=by decide
 rw[h1,Nat.and_two_pow_sub_one_eq_mod,IntKind.wrap_u64]
 omega
theorem o8 (x:Nat)(hx:x<4294967296):IntKind.u64.wrap (x:Int)=(x:Int):=by
 rw[IntKind.wrap_u64];omega
theorem sj (x y:Nat)(w:World)(hx:x<4294967296)(hy:y<4294967296)(hz:x*y<4294967296) :
  Calls Tryz.prog 113 #[.int .u64 x,.int .u64 y] w fun e w'=>e=.returned (.tuple #[.int .u64 0,.int .u64 ((x*y:Nat):Int)])/\w=w':=by
 have a1:=ld x hx
 have a2:=ld y hy
 have a3:(x:Int)/4294967296=0:=om
 have a4:(y:Int)/4294967296=0:=om
 have a5:=o8 (x*y) hz
 rw[Int.natCast_mul]at a5
 have a6:(x:Int)*(y:Int)/4294967296=0:=by rw[<-Int.natCast_mul];omega
 have a7:IntKind.u64.wrap 0=0:=by decide
 have a8:bits .and .u64 0 4294967295=0:=by decide
 go_enter Tryz.func113,Tryz.ntmps113
 go_wp2
 go_ret2
 simp
theorem vF (x y:Nat)(w:World)(hx:x<4294967296)(hy:y<4294967296)(hz:x*y<4294967296) :
  Calls Tryz.prog 80 #[.int .u64 x,.int .u64 y] w fun e w'=>e=.returned (.tuple #[.int .u64 0,.int .u64 ((x*y:Nat):Int)])/\w=w':=by
 go_enter Tryz.func80,Tryz.ntmps80
 go_wp2_with (go_at_call 113;refine(sj _ _ _ hx hy hz).mono ?_;rintro e w' ⟨rfl,rfl⟩)
 go_ret2
 exact⟨rfl,rfl⟩
theorem nN : (Tryz.prog.info? 40).map (fun i=>(i.zero,i.size,i.bytes))=some (some (.slice none 0 0),1,24):=kr
theorem Ef : (Tryz.prog.info? 40).map (·.size)=some 1:=kr
def ac (w:World)(g:Nat)(t:TypeId)(l:List Value):Prop:=w.heap[g]? = some (.cells l.toArray t (0,0))
theorem ac.lt {w:World}{g:Nat}{t:TypeId}{l:List Value}(h:ac w g t l):g<w.heap.size:=(Array.getElem?_eq_some_iff.1 h).1
theorem ac.cell {w:World}{g:Nat}{t:TypeId}{l:List Value}(h:ac w g t l)(i:Nat):w.cell? ⟨g,i,none⟩=l[i]? := by simp[World.cell?,show w.heap[g]? = _ from h]
theorem ac.alloc {w:World}{g:Nat}{t:TypeId}{l:List Value}(h:ac w g t l)(o:Obj):ac (w.alloc o) g t l:=(Below.heap_alloc w o g h.lt).trans h
theorem ac.below {B:Nat}{w w':World}{g:Nat}{t:TypeId}{l:List Value}(h:ac w g t l)(hb:Below B w w')(hg:g<B):ac w' g t l:=(hb.block g hg).trans h
theorem ac.drew {w:World}{g:Nat}{t:TypeId}{l:List Value}(h:ac w g t l):ac w.drew g t l:=h
theorem gB (z:Value)(n:Nat):madeCells #[z] n=(List.replicate n z).toArray:=by
 apply Array.ext
 ·simp[madeCells]
 ·intro i h1 h2
  simp[madeCells,Nat.mod_one]
theorem tT (b off c k:Nat)(xa:Option Addr)(xn xc:Nat)(w:World)(hk1:1<=k)(hk:k<=64)(hcell:w.cell? ⟨b,off,none⟩=some (.slice xa xn xc)) :
  Calls Tryz.prog 40 #[.slice (some ⟨b,off,none⟩) 1 c,.int .i64 k] w fun e w'=>∃g,e=.returned (.slice (some ⟨g,0,none⟩) k k)/\w.heap.size<=g/\ac w' g 40 (List.replicate k (.slice xa xn xc))/\Below w.heap.size w w':=by
 have hb:b<w.heap.size:=World.block_lt_of_cell? _ _ hcell
 obtain⟨Z,hZ⟩:∃Z:List Value,Z=List.replicate k (.slice none 0 0):=⟨_,rfl⟩
 have hmk:=run_make_row' (P:=Tryz.prog) 22 40 (.slice none 0 0) 24 Tryz.underlying22 nN rfl .i64 .i64 k om om
 rw[gB,<-hZ]at hmk
 have hZl:Z.length=k:=by rw[hZ];simp
 have HZ:=aa hZ
 have HZl:=aa hZl
 clear hZ hZl
 have hB0:Below w.heap.size w (w.alloc (.cells Z.toArray 40)):=(Below.refl _ w).alloc (Nat.le_refl _) _
 have hcs:=ag hB0 hcell
 have hrow:(w.alloc (.cells Z.toArray 40)).heap[w.heap.size]? = some (.cells Z.toArray 40 (0,0)):=World.alloc_heap_new w _
 have HR:=aa hrow
 have HC:=aa hcell
 have HCS:=aa hcs
 clear hrow hcell hcs
 go_enter Tryz.func40,Tryz.ntmps40
 go_wp2_with (first
  | (go_at_call 80;refine(vF 1 k _ om om om).mono ?_;rintro e w' ⟨rfl,rfl⟩)
  | (refine wpList_copy_splice rfl (.tmp 31) (.tmp 32) 22 22 rfl 40 Tryz.underlying22 Ef (some ⟨w.heap.size,0,none⟩) (some ⟨b,off,none⟩) k k 1 c ?hd ?hs w.heap.size 0 Z 40 HR.out [.slice xa xn xc] ?c1 ?c2 ?c3 ?c4 w.heap.size w hB0 (Nat.le_refl _) ?_;(case hd=>rfl);(case hs=>rfl);rotate_right;intro w2 HG2 hB2))
 case c1=>exact(Nat.min_eq_left hk1).symm
 case c2 =>
  intro j v hv
  match j,hv with
  | 0,hv=>simp at hv;subst hv;exact HC.out
 case c3=>have:=HZl.out;simp;omega
 case c4=>simp[Value.oneCell']
 have HRow:ac w2 w.heap.size 40 (splice Z 0 [.slice xa xn xc]):=HG2.out
 have hlt:=HRow.lt
 clear HG2 HR HC HCS hmk
 go_loopw [8] (fun i wr=>∃m:Nat,1<=m/\m<=k/\i=.int .i64 m/\ac wr w.heap.size 40 (List.replicate m (.slice xa xn xc)++List.replicate (k-m) (.slice none 0 0))/\Below w.heap.size w wr) (fun i _=>k-(intOf i).toNat)
 case atStart =>
  refine⟨1,Nat.le_refl _,hk1,by simp,?_,hB2⟩
  have:=HRow
  rw[HZ.out]at this
  unfold splice at this
  obtain⟨k,rfl⟩:∃q,k=q+1:=⟨k-1,om⟩
  simpa[List.replicate_succ] using this
 case round =>
  obtain⟨m,hm1,hmk,rfl,hrow,hB⟩:=hrel
  by_cases hlt:m<k
  ·obtain⟨L,hL⟩:∃L:List Value,L=List.replicate m (.slice xa xn xc)++List.replicate (k-m) (.slice none 0 0):=⟨_,rfl⟩
   rw[<-hL]at hrow
   obtain⟨cs,hcs⟩:∃cs:List Value,cs=List.replicate (Nat.min m (k-m)) (.slice xa xn xc):=⟨_,rfl⟩
   have q1:cs.length=Nat.min m (k-m):=by rw[hcs];simp
   have q2:∀j v,cs[j]? = some v->wr.drew.cell? ((⟨w.heap.size,0,none⟩:Addr).add j)=some v:=by
    intro j v hv
    rw[Addr.add_lit]
    have:wr.drew.cell? ⟨w.heap.size,0+j,none⟩=L[j]? := by rw[Nat.zero_add];exact ac.cell (ac.drew hrow) j
    rw[this,hL]
    rw[hcs,List.getElem?_replicate]at hv
    split at hv
    ·rename_i hj
     have hj':j<m:=Nat.lt_of_lt_of_le hj (Nat.min_le_left _ _)
     rw[List.getElem?_append_left (by simpa using hj'),List.getElem?_replicate,if_pos hj']
     exact hv
    ·cases hv
   have q3:m+cs.length<=L.length:=by
    rw[q1,hL]
    have h5:=Nat.min_le_right m (k-m)
    simp only[List.length_append,List.length_replicate]
    have h6:Nat.min m (k-m)=min m (k-m):=rfl
    omega
   have q4:∀v ∈ cs,v.oneCell'=true:=by rw[hcs];intro v hv;rw[List.eq_of_mem_replicate hv];rfl
   have q5:cs.length<=k-m:=by rw[q1];exact Nat.min_le_right _ _
   have q6:1<=cs.length:=by rw[q1];exact Nat.le_min.2 ⟨hm1,om⟩
   have Q1:=aa q1
   have Q2:=aa q2
   have Q3:=aa q3
   have Q4:=aa q4
   have HL:=aa hL
   have HCS:=aa hcs
   have HROW:=aa hrow
   have hBd:Below w.heap.size w wr.drew:=hB.drew
   have hkm:¬k=m:=om
   have hwr:IntKind.i64.wrap ((m:Int)+(cs.length:Int))=((m+cs.length:Nat):Int):=by rw[IntKind.wrap_i64];omega
   clear hrow HRow q1 q2 q3 q4 hL hcs
   go_wp2_with fail
   go_region_law (first|(refine step_copy_splice rfl (.tmp 41) (.tmp 44) 22 22 rfl 40 Tryz.underlying22 Ef (some ⟨w.heap.size,m,none⟩) (some ⟨w.heap.size,0,none⟩) (k-m) (k-m) m k ?hd ?hs w.heap.size m L 40 HROW.out cs Q1.out (fun _=>⟨rfl,⟨w.heap.size,0,none⟩,rfl,Q2.out⟩) Q3.out Q4.out w.heap.size w hBd (Nat.le_refl _) ?_;(case hd=>simp[Act.eval,Act.put]);(case hs=>simp[Act.eval,Act.put]);intro w2 HG2 hB2))
   all_goals
    have hsp:splice L m cs=List.replicate (m+cs.length) (.slice xa xn xc)++List.replicate (k-(m+cs.length)) (.slice none 0 0):=by
     have e1:=HL.out
     have e2:=HCS.out
     have e3:=Q1.out
     unfold splice
     rw[<-e3]at e2
     rw[e1]
     have e4:(List.replicate m (.slice xa xn xc)++List.replicate (k-m) (.slice none 0 0):List Value).take m=List.replicate m (.slice xa xn xc):=by simp
     have e5:(List.replicate m (.slice xa xn xc)++List.replicate (k-m) (.slice none 0 0):List Value).drop (m+cs.length)=List.replicate (k-(m+cs.length)) (.slice none 0 0):=by
      rw[List.drop_append,List.drop_eq_nil_of_le (by simp)]
      simp
      omega
     rw[e4,e5,<-List.append_assoc]
     congr 1
     conv=>lhs;rhs;rw[e2]
     rw[List.replicate_append_replicate]
    have hnew:ac w2 w.heap.size 40 (List.replicate (m+cs.length) (.slice xa xn xc)++List.replicate (k-(m+cs.length)) (.slice none 0 0)):=by rw[<-hsp];exact HG2.out
    have HNEW:=aa hnew
    clear hsp hnew HG2
    clear hwr
    simp only[Act.put,zD,zF,zE,zA,zB,zC]
    go_wp2
    go_roundw
    case rel=>exact⟨m+cs.length,om,om,by go_num,HNEW.out,hB2⟩
    case measure=>simp[intOf];omega
  ·obtain rfl:m=k:=om
   go_wp2
   go_ret
   exact⟨_,rfl,Nat.le_refl _,by simpa using hrow,hB⟩
end Go.Proofs.YtmflnpdmlfmcpaaGreatDoor
namespace Go.Proofs.YtmflnpdmlfmcpaaGreatDoor
open Go.RowKit
variable {Nz : Nat}
theorem iZ {α:Type}{R:World->List Value->α->Prop}{w:World}{g:Nat}{t:TypeId}{l:List Value}(xs:List α)(n:Nat)(hn:xs.length=n)(h:ac w g t l)
  (hR:∀(i:Nat) (x:α),xs[i]? = some x->∃v,l[i]? = some v/\R w [v] x):Sl 1 R w (some ⟨g,0,none⟩) n xs:=by
 refine⟨hn,.inr ⟨g,0,rfl,fun i x hx => ?_⟩⟩
 obtain⟨v,hv,hr⟩:=hR i x hx
 refine⟨[v],rfl,hr,fun j u hu => ?_⟩
 match j,hu with
 | 0,hu =>
  simp only[List.getElem?_cons_zero,Option.some.injEq]at hu
  subst hu
  rw[ac.cell h,<-hv]
  simp
theorem ac.setCell {w:World}{g:Nat}{t:TypeId}{l:List Value}(h:ac w g t l){p:Addr}(hp:g≠p.block)(u:Value):ac (w.setCell p u) g t l:=(Below.heap_setCell w p u g hp).trans h
theorem dz {w:World}{n:Nat}(C:Array Value)(t:TypeId)(h:n=w.heap.size)(i:Nat):(w.alloc (.cells C t)).cell? ⟨n,i,none⟩=C[i]? := by
 have:=ak (.cells C t) h
 simp[World.cell?,this]
def af (bs:List UInt8):List Value:=bs.map fun b=>.int .u8 b.toNat
theorem fs {w:World}{g:Nat}{t:TypeId}(bs:List UInt8)(n:Nat)(hn:bs.length=n)(h:ac w g t (af bs)):Sl 1 ai w (some ⟨g,0,none⟩) n bs:=
 iZ bs n hn h fun i x hx=>⟨_,by simp only[af,List.getElem?_map,hx];rfl,rfl⟩
theorem qL {w:World}{g:Nat}(bs:List UInt8)(n c:Nat)(hn:bs.length=n)(hm:n<=maxLen)(hc:n<=c)(h:ac w g 5 (af bs)):aN Nz w [.slice (some ⟨g,0,none⟩) n c] bs:=
 ⟨_,n,c,rfl,hm,hc,fs bs n hn h,bO.row h (.inl rfl)⟩
def iJ : List UInt8:=List.replicate 128 0
theorem lf : af iJ=List.replicate 128 (.int .u8 0):=by
 simp[af,iJ]
def aj.fresh (k:Nat):aj:=⟨List.replicate k iJ,[],-1,false⟩
theorem jv : (Tryz.prog.info? 5).map (fun i=>(i.zero,i.size,i.bytes))=some (some (.int .u8 0),1,1):=kr
theorem qB : (Tryz.prog.info? 5).map (·.size)=some 1:=kr
theorem Bq (k:Nat)(w:World)(hk1:1<=k)(hk:k<=60) :
  Calls Tryz.prog 16 #[.int .i64 k] w fun e w'=>(∃v,e=.returned (.tuple #[v,.int .i64 0])/\eJ Nz w' v (aj.fresh k))/\Below w.heap.size w w':=by
 have hmk:=run_make_row' (P:=Tryz.prog) 40 5 (.int .u8 0) 1 Tryz.underlying40 jv rfl .i64 .i64 128 om om
 rw[gB,<-lf,show ((128:Nat):Int)=128 from rfl]at hmk
 obtain⟨Z,hZ⟩:=zg (af iJ)
 rw[<-hZ]at hmk
 have HZ:=aa hZ
 clear hZ
 go_enter Tryz.func16,Tryz.ntmps16
 go_wp2_with fail
 refine(tT _ _ 1 k (some ⟨w.heap.size+1,0,none⟩) 128 128 _ hk1 om ?hc).mono ?_
 case hc=>exact dz _ _ (by simp) 0
 rintro e w1 ⟨g,rfl,hg,hR,hB⟩
 obtain⟨rl,r0,r1,r2,r3,⟨j0,j1,j2,j3⟩,z0,z1,z2,z3⟩:=aF hB (aB _ (aB _ (ak (n:=w.heap.size) _ rfl)))
 have hz:ac w1 (w.heap.size+1) 5 Z:=by
  refine(hB.block (w.heap.size+1) (by simp)).trans (aB _ ?_)
  exact ak _ (by simp)
 have hB1:Below w.heap.size w w1:=Below.trans (by go_grown) (hB.mono (by simp;omega))
 have hg1:w.heap.size+1<g:=by simp at hg;omega
 clear hB hmk
 go_wp2
 refine bodyPost_ret (by simp[results,Tryz.results16,go_sem,r0,r1,r2,r3];try rfl) rfl ?_
 refine⟨⟨_,rfl,?_⟩,by go_grown⟩
 have hz':ac w1 (w.heap.size+1) 5 (af iJ):=by rw[<-HZ.out];exact hz
 have hR2:=(((hR.setCell (p:=⟨w.heap.size,0,none⟩) (by simp;omega) (.slice (some ⟨g,0,none⟩) k k)).setCell (p:=⟨w.heap.size,1,none⟩) (by simp;omega) (.slice none 0 0)).setCell (p:=⟨w.heap.size,2,none⟩) (by simp;omega) (.int .i64 (-1))).setCell (p:=⟨w.heap.size,3,none⟩) (by simp;omega) (.bool false)
 have hz2:=(((hz'.setCell (p:=⟨w.heap.size,0,none⟩) (by simp) (.slice (some ⟨g,0,none⟩) k k)).setCell (p:=⟨w.heap.size,1,none⟩) (by simp) (.slice none 0 0)).setCell (p:=⟨w.heap.size,2,none⟩) (by simp) (.int .i64 (-1))).setCell (p:=⟨w.heap.size,3,none⟩) (by simp) (.bool false)
 refine⟨_,k,k,none,0,0,rfl,iZ _ k (by simp[aj.fresh]) hR2 (fun i x hx => ?_),Sl.nil _ _ _ _,by unfold maxLen;omega,by unfold maxLen;omega,Nat.le_refl _,Nat.le_refl _,bO.row hR2 (.inr (.inl rfl)),bO.zero _ _⟩
 simp only[aj.fresh,List.getElem?_replicate]at hx ⊢
 split at hx
 ·rename_i hi
  simp only[Option.some.injEq]at hx
  subst hx
  rw[if_pos hi]
  exact⟨_,rfl,qL _ 128 128 (by simp[iJ]) (by unfold maxLen;omega) (Nat.le_refl _) hz2⟩
 ·cases hx
end Go.Proofs.YtmflnpdmlfmcpaaGreatDoor
namespace Go.Proofs.YtmflnpdmlfmcpaaGreatDoor
open Go.RowKit
variable {Nz : Nat}
theorem ax {w:World}{b:Nat}{C:Array Value}{t:TypeId}{fr:Nat × Nat}(h:w.heap[b]? = some (.cells C t fr))(i:Nat)(u:Value):(w.setCell ⟨b,i,none⟩ u).heap[b]? = some (.cells (C.setIfInBounds i u) t fr):=by
 have hlt:=lt_of_block h
 have h':w.heap[b]=.cells C t fr:=by simpa[Array.getElem?_eq_getElem hlt] using h
 show (w.heap.modify b _)[b]? = _
 rw[Array.getElem?_eq_getElem (by simpa using hlt),Array.getElem_modify_self,h']
 rfl
theorem bx {w w':World}{row:Option Nat}{b:Nat}{o:Obj}(h:w.heap[b]? = some o)(hg:w.grownBy w' row)(hne:some b≠row):w'.heap[b]? = some o:=(hg.block b (lt_of_block h) hne).trans h
theorem de {w:World}{base:Nat}{e:TypeId}{size n:Nat}{v:Value}{xs:List Value}(h:w.ownsRow base e size v n xs){b:Nat}{C:Array Value}{t:TypeId}{fr:Nat × Nat}(hb:w.heap[b]? = some (.cells C t fr))(hte:t≠e):some b≠v.ownBlock:=by
 rcases h.2 with ⟨rfl,_⟩|⟨g,cap,cur,rfl,_,hh,_⟩
 ·simp[Value.ownBlock]
 ·simp only[Value.ownBlock,ne_eq,Option.some.injEq]
  rintro rfl
  rw[hb]at hh
  simp at hh
  exact hte hh.2.1
theorem ft {w:World}{base:Nat}{e:TypeId}{size n:Nat}{v:Value}{xs:List Value}(h:w.ownsRow base e size v n xs):∃a c,v=.slice a n c:=by
 rcases h.2 with ⟨rfl,rfl⟩|⟨g,cap,cur,rfl,_⟩
 ·exact⟨none,0,rfl⟩
 ·exact⟨_,cap,rfl⟩
theorem bO.own {w:World}{base:Nat}{e:TypeId}{size n c k:Nat}{a:Option Addr}{vs:List Value}(h:w.ownsRow base e size (.slice a n c) k vs)(he:e=5\/e=40\/e=64):bO Nz w a n:=by
 rcases h.2 with ⟨h1,rfl⟩|⟨g,cap,cur,h1,_,hh,_⟩
 ·cases h1
  exact bO.zero _ _
 ·simp only[Value.slice.injEq]at h1
  obtain⟨rfl,rfl,rfl⟩:=h1
  exact bO.row hh he
theorem d8 {α:Type}{R:World->List Value->α->Prop}{w:World}{base:Nat}{e:TypeId}{a:Option Addr}{n c:Nat}{vs:List Value}(h:w.ownsRow base e 1 (.slice a n c) n vs)(xs:List α)(hl:xs.length=n)
  (hR:∀(i:Nat) (x:α),xs[i]? = some x->∃u,vs[i]? = some u/\R w [u] x):n<=maxLen/\n<=c/\Sl 1 R w a n xs:=by
 rcases h.2 with ⟨h1,rfl⟩|⟨g,cap,cur,h1,_,hh,h2,h3,h4,h5⟩
 ·cases h1
  exact⟨by unfold maxLen;omega,Nat.le_refl _,hl,.inl rfl⟩
 ·simp only[Value.slice.injEq,true_and]at h1
  obtain⟨rfl,rfl⟩:=h1
  refine⟨om,h2,hl,.inr ⟨g,0,rfl,fun i x hx => ?_⟩⟩
  obtain⟨u,hu,hr⟩:=hR i x hx
  refine⟨[u],rfl,hr,fun j v hv => ?_⟩
  match j,hv with
  | 0,hv =>
   simp only[List.getElem?_cons_zero,Option.some.injEq]at hv
   subst hv
   rw[<-h5,List.getElem?_take]at hu
   split at hu
   ·simpa[World.cell?,hh] using hu
   ·cases hu
end Go.Proofs.YtmflnpdmlfmcpaaGreatDoor
namespace Go.Proofs.YtmflnpdmlfmcpaaGreatDoor
open Go.RowKit
variable {Nz : Nat}
def vG (e:Ending):Prop:=∃r:Bool,e=.returned (.bool r)
theorem tj (a1:Option Addr)(n1 c1:Nat)(a2:Option Addr)(n2 c2:Nat)(d:aj)(w:World)(h:bF Nz w a1 n1 c1 a2 n2 c2 d) :
  Calls Tryz.prog 21 #[.agg #[.slice a1 n1 c1,.slice a2 n2 c2,.int .i64 d.left,.bool d.stopped]] w fun e w'=>vG e/\Below w.heap.size w w':=by
 have L1:=aa h.secs.len
 have L2:=aa h.pend.len
 have m1:=h.m1
 have m2:=h.m2
 have hc1:=h.secs.secs
 have hc2:=h.pend.writes
 unfold maxLen at m1 m2
 have hB0:Hid (∀x,Below w.heap.size w (w.alloc x)):=fun x=>(Below.refl _ _).alloc (Nat.le_refl _) x
 clear h
 go_enter Tryz.func21,Tryz.ntmps21
 go_wp2
 go_loop [4,3] (fun i n=>∃(k:Nat) (z:Int),k<=n1/\i=.int .i64 k/\n=.int .i64 z) (fun i _=>n1-(intOf i).toNat)
 case atStart=>exact⟨0,0,Nat.zero_le _,rfl,rfl⟩
 case round =>
  obtain⟨k,z,hk,rfl,rfl⟩:=hrel
  by_cases hlt:k<n1/\z<=9000
  ·obtain⟨hlt,hz⟩:=hlt
   rcases hc1 with h0|⟨b1,o1,rfl,hc1⟩
   ·omega
   obtain⟨x,hx⟩:=av L1.out hlt
   obtain⟨xa,xn,xc,hxm,_,hxs,hcell⟩:=hc1 k x hx
   have hb1:b1<w.heap.size:=World.block_lt_of_cell? _ _ hcell
   clear hx hc1 hc2 hxs
   go_wp2
   go_round
   case rel=>exact⟨k+1,_,om,by go_num,rfl⟩
   case measure=>simp[intOf];omega
  ·have hexit:(k<n1/\9000<z)\/¬k<n1:=om
   clear hlt hc1
   rcases hexit with ⟨g1,g2⟩|g1
   all_goals
    go_wp2
    go_loop [5,3] (fun i n=>∃(k:Nat) (z:Int),k<=n2/\i=.int .i64 k/\n=.int .i64 z) (fun i _=>n2-(intOf i).toNat)
    case atStart=>exact⟨0,_,Nat.zero_le _,rfl,rfl⟩
    case round =>
     obtain⟨k2,z2,hk2,rfl,rfl⟩:=hrel
     by_cases hlt2:k2<n2/\z2<=9000
     ·obtain⟨hlt2,hz2⟩:=hlt2
      rcases hc2 with h0|⟨b2,o2,rfl,hc2⟩
      ·omega
      obtain⟨x,hx⟩:=av L2.out hlt2
      obtain⟨xa,xn,xc,hxm,_,hxs,hcell0,hcell⟩:=hc2 k2 x hx
      have hb1:b2<w.heap.size:=World.block_lt_of_cell? _ _ hcell
      clear hx hc2 hxs hcell0
      go_wp2
      go_round
      case rel=>exact⟨k2+1,_,om,by go_num,rfl⟩
      case measure=>simp[intOf];omega
     ·have hexit:(k2<n2/\9000<z2)\/¬k2<n2:=om
      clear hlt2 hc2
      rcases hexit with ⟨g3,g4⟩|g3
      all_goals
       go_wp2
       go_ret
       exact⟨⟨decide (z2<=9000),rfl⟩,hB0.out _⟩
def aw (bs:List UInt8):ByteArray:=⟨bs.toArray⟩
theorem dB {w:World}{a:Option Addr}{n c:Nat}{bs:List UInt8}(h:Sl 1 ai w a n bs):(convert 40 9 (.slice a n c)).run Tryz.prog w=.ok (.string (aw bs)) w:=by
 obtain⟨hl,h⟩:=h
 subst hl
 cases a with
 | none =>
  rcases h with h|⟨b,off,h,_⟩
  ·rw[run_convert_bytes_nil w 40 5 Tryz.underlying40 Tryz.underlying5 _ _ 9 Tryz.underlying9]
   rw[List.eq_nil_of_length_eq_zero h]
   rfl
  ·cases h
 | some ad =>
  rcases h with h|⟨b,off,h,hc⟩
  ·have h0:bs=[]:=List.eq_nil_of_length_eq_zero h
   subst h0
   rw[run_convert_bytes_string w 40 9 5 _ _ _ Tryz.underlying40 Tryz.underlying5 Tryz.underlying9]
   rw[show ([]:List UInt8).length=0 from rfl,run_bytesToString w ad 0 c [] (by simp[loadCells,loadCellsFrom,Sem.run_pure])]
   rfl
  ·simp only[Option.some.injEq]at h
   subst h
   have:=run_convert_bytes_arg (P:=Tryz.prog) w 40 5 Tryz.underlying40 Tryz.underlying5 b off bs.length c (bs.map fun x=>(x.toNat:Int)) (by simp) (fun i hi=>by
    obtain⟨vs,_,hv,hcell⟩:=hc i bs[i] (List.getElem?_eq_getElem hi)
    obtain rfl:vs=_:=hv
    have h2:=hcell 0 _ rfl
    simp only[Nat.mul_one,Nat.add_zero]at h2
    rw[h2]
    simp[List.getD,hi]) 9 Tryz.underlying9
   rw[this]
   simp[strOfNums,aw,Function.comp_def]
end Go.Proofs.YtmflnpdmlfmcpaaGreatDoor
namespace Go.Proofs.YtmflnpdmlfmcpaaGreatDoor
open Go.RowKit
variable {Nz : Nat}
theorem l9 {w W:World}{a:Option Addr}{n c:Nat}{bs:List UInt8}(h:Sl 1 ai w a n bs)(hW:Below w.heap.size w W):(convert 40 9 (.slice a n c)).run Tryz.prog W=.ok (.string (aw bs)) W:=dB (h.below ai.keeps hW)
theorem DN (a1:Option Addr)(n1 c1:Nat)(a2:Option Addr)(n2 c2:Nat)(b1:Option Addr)(k1 e1:Nat)(b2:Option Addr)(k2 e2:Nat)(d:aj)(w:World)(h:bF Nz w a1 n1 c1 a2 n2 c2 d)(h':bF Nz w b1 k1 e1 b2 k2 e2 d) :
  Calls Tryz.prog 13 #[.agg #[.slice a1 n1 c1,.slice a2 n2 c2,.int .i64 d.left,.bool d.stopped],.agg #[.slice b1 k1 e1,.slice b2 k2 e2,.int .i64 d.left,.bool d.stopped]] w fun e w'=>e=.returned (.bool true)/\Below w.heap.size w w':=by
 have L1:=aa h.secs.len
 have L2:=aa h.pend.len
 obtain rfl:n1=k1:=by rw[<-L1.out];exact h'.secs.len
 obtain rfl:n2=k2:=by rw[<-L2.out];exact h'.pend.len
 have m1:=h.m1
 have m2:=h.m2
 have hc1:=h.secs.secs
 have hc2:=h.pend.writes
 have hd1:=h'.secs.secs
 have hd2:=h'.pend.writes
 unfold maxLen at m1 m2
 have hB0:Hid (∀x y,Below w.heap.size w ((w.alloc x).alloc y)):=fun x y=>((Below.refl _ _).alloc (Nat.le_refl _) _).alloc (by simp) _
 clear h h'
 go_enter Tryz.func13,Tryz.ntmps13
 go_wp2
 have HC1:=aa hc1
 have HC2:=aa hc2
 have HD1:=aa hd1
 have HD2:=aa hd2
 clear hc1 hc2 hd1 hd2
 go_loopw [5] (fun i wr=>∃k:Nat,k<=n1/\i=.int .i64 k/\Below w.heap.size w wr/\wr.heap[w.heap.size]? = some (.cells #[.slice a1 n1 c1,.slice a2 n2 c2,.int .i64 d.left,.bool d.stopped] 27 (0,0))/\wr.heap[w.heap.size+1]? = some (.cells #[.slice b1 n1 e1,.slice b2 n2 e2,.int .i64 d.left,.bool d.stopped] 27 (0,0))) (fun i _=>n1-(intOf i).toNat)
 case atStart=>exact⟨0,Nat.zero_le _,rfl,hB0.out _ _,aB _ (ak _ rfl),ak _ (by simp)⟩
 case round =>
  obtain⟨k,hk,rfl,hB,hx1,hx2⟩:=hrel
  obtain⟨pl,p0,p1,p2,p3,_,_⟩:=aF (Below.refl _ wr) hx1
  obtain⟨ql,q0,q1,q2,q3,_,_⟩:=aF (Below.refl _ wr) hx2
  have HX1:=aa hx1
  have HX2:=aa hx2
  clear hx1 hx2
  by_cases hlt:k<n1
  ·rcases HC1.out with h0|⟨f1,o1,rfl,hc1⟩
   ·omega
   rcases HD1.out with h0|⟨g1,u1,rfl,hd1⟩
   ·omega
   obtain⟨x,hx⟩:=av L1.out hlt
   obtain⟨xa,xn,xc,_,_,hxs,hcell⟩:=hc1 k x hx
   obtain⟨ya,yn,yc,_,_,hys,hdell⟩:=hd1 k x hx
   have s1:=ag hB hcell
   have s2:=ag hB hdell
   have t1:∀q,(convert 40 9 (.slice xa xn xc)).run Tryz.prog (wr.drewN q)=.ok (.string (aw x)) (wr.drewN q):=fun q=>l9 hxs (below_drewN hB q)
   have t2:∀q,(convert 40 9 (.slice ya yn yc)).run Tryz.prog (wr.drewN q)=.ok (.string (aw x)) (wr.drewN q):=fun q=>l9 hys (below_drewN hB q)
   have k0:(0:Int)<=(k:Int):=om
   have k1':(k:Int)<(n1:Int):=om
   clear hx hc1 hd1 hcell hdell hxs hys
   go_wp2
   go_quiet (fail)
   go_wp2
   go_roundw
   case rel=>exact⟨k+1,om,by go_num,below_drewN hB nq,HX1.out,HX2.out⟩
   case measure=>simp[intOf];omega
  ·clear HC1 HD1
   go_wp2
   obtain⟨wo,rfl⟩:∃wo:World,wo=wr:=⟨_,rfl⟩
   go_loopw [6] (fun i wr=>∃k:Nat,k<=n2/\i=.int .i64 k/\Below w.heap.size w wr/\wr.heap[w.heap.size]? = some (.cells #[.slice a1 n1 c1,.slice a2 n2 c2,.int .i64 d.left,.bool d.stopped] 27 (0,0))/\wr.heap[w.heap.size+1]? = some (.cells #[.slice b1 n1 e1,.slice b2 n2 e2,.int .i64 d.left,.bool d.stopped] 27 (0,0))) (fun i _=>n2-(intOf i).toNat)
   case atStart=>exact⟨0,Nat.zero_le _,rfl,hB,HX1.out,HX2.out⟩
   case round =>
    clear pl p0 p1 p2 p3 ql q0 q1 q2 q3 HX1 HX2 hB
    obtain⟨j,hj,rfl,hB,hx1,hx2⟩:=hrel
    obtain⟨pl,p0,p1,p2,p3,_,_⟩:=aF (Below.refl _ wr) hx1
    obtain⟨ql,q0,q1,q2,q3,_,_⟩:=aF (Below.refl _ wr) hx2
    have HX1:=aa hx1
    have HX2:=aa hx2
    clear hx1 hx2
    by_cases hlt2:j<n2
    ·rcases HC2.out with h0|⟨f1,o1,rfl,hc1⟩
     ·omega
     rcases HD2.out with h0|⟨g1,u1,rfl,hd1⟩
     ·omega
     obtain⟨x,hx⟩:=av L2.out hlt2
     obtain⟨xa,xn,xc,_,_,hxs,hcell0,hcell⟩:=hc1 j x hx
     obtain⟨ya,yn,yc,_,_,hys,hdell0,hdell⟩:=hd1 j x hx
     have s1:=ag hB hcell
     have s2:=ag hB hdell
     have s3:=ag hB hcell0
     have s4:=ag hB hdell0
     have t1:∀q,(convert 40 9 (.slice xa xn xc)).run Tryz.prog (wr.drewN q)=.ok (.string (aw x.2)) (wr.drewN q):=fun q=>l9 hxs (below_drewN hB q)
     have t2:∀q,(convert 40 9 (.slice ya yn yc)).run Tryz.prog (wr.drewN q)=.ok (.string (aw x.2)) (wr.drewN q):=fun q=>l9 hys (below_drewN hB q)
     have k0:(0:Int)<=(j:Int):=om
     have k1':(j:Int)<(n2:Int):=om
     clear hx hc1 hd1 hcell hdell hxs hys hcell0 hdell0
     go_wp2
     go_quiet (fail)
     go_wp2
     go_roundw
     case rel=>exact⟨j+1,om,by go_num,below_drewN hB nq,HX1.out,HX2.out⟩
     case measure=>simp[intOf];omega
    ·clear HC2 HD2
     go_wp2
     go_ret
     exact⟨rfl,hB⟩
end Go.Proofs.YtmflnpdmlfmcpaaGreatDoor
namespace Go.Proofs.YtmflnpdmlfmcpaaGreatDoor
open Go.RowKit
variable {Nz : Nat}
def dU (bs:List UInt8):Nat:=bs.foldl (fun n b=>n*256+b.toNat) 0
theorem pF (l:List UInt8)(k:Nat)(b:UInt8)(h:l[k]? = some b):dU (l.take (k+1))=dU (l.take k)*256+b.toNat:=by
 unfold dU
 rw[cp l k b h,List.foldl_append]
 rfl
theorem mb (l:List UInt8):dU l<256 ^ l.length:=by
 have gen:∀(l:List UInt8) (z m:Nat),z<256 ^ m->l.foldl (fun n b=>n*256+b.toNat) z<256 ^ (m+l.length):=by
  intro l
  induction l with
  | nil=>intro z m h;exact h
  | cons b l ih =>
   intro z m h
   have hb:=b.toNat_lt
   have:=ih (z*256+b.toNat) (m+1) (by rw[Nat.pow_succ];omega)
   rw[List.length_cons,show m+(l.length+1)=m+1+l.length by omega]
   exact this
 simpa[dU] using gen l 0 0 (by simp)
theorem nO (l:List UInt8)(k:Nat)(hk:k<=6):dU (l.take k)<281474976710656:=by
 have h1:=mb (l.take k)
 have h2:256 ^ (l.take k).length<=256 ^ 6:=Nat.pow_le_pow_right om (by simp;omega)
 omega
theorem qN (n b:Nat)(hb:b<256):n*256 ||| b=n*256+b:=by
 rw[show n*256=n <<< 8 by rw[Nat.shiftLeft_eq],Nat.shiftLeft_add_eq_or_of_lt (by omega:b<2 ^ 8)]
theorem kD (a:Option Addr)(n c:Nat)(l:List UInt8)(w:World)(hn:n<=6)(h:Sl 1 ai w a n l) :
  Calls Tryz.prog 104 #[.slice a n c] w fun e w'=>e=.returned (.int .u64 (dU l))/\w=w':=by
 have HL:=aa h.len
 rcases h.bytes with h0|⟨b,off,rfl,hc⟩
 ·obtain rfl:=h0
  clear h
  go_enter Tryz.func104,Tryz.ntmps104
  go_wp2
  refine wp_loop_rounds 1 ?_
  rw[rounds_succ]
  go_wp2
  go_ret
  exact⟨bY (by rw[List.eq_nil_of_length_eq_zero HL.out];rfl),rfl⟩
 clear h
 go_enter Tryz.func104,Tryz.ntmps104
 go_wp2
 go_loop [3,4] (fun z i=>∃k:Nat,k<=n/\i=.int .i64 k/\z=.int .u64 (dU (l.take k))) (fun _ i=>n-(intOf i).toNat)
 case atStart=>exact⟨0,Nat.zero_le _,rfl,rfl⟩
 case round =>
  obtain⟨k,hk,rfl,rfl⟩:=hrel
  by_cases hlt:k<n
  ·obtain⟨x,hx⟩:=av HL.out hlt
   have hcell:=hc k x hx
   have hu:=pF l k x hx
   have hs:=nO l k om
   have hxl:=x.toNat_lt
   obtain⟨u,hu0⟩:=zg (dU (l.take k))
   rw[<-hu0]at hu hs ⊢
   have HU:=aa hu
   obtain⟨xx,hxx⟩:=zg x.toNat
   rw[<-hxx]at hcell hxl
   have HXX:=aa hxx
   have w1:IntKind.u64.wrap (256*(u:Int))=256*(u:Int):=by rw[IntKind.wrap_u64];omega
   have w2:IntKind.u64.wrap (256*(u:Int)+(xx:Int))=((u*256+xx:Nat):Int):=by rw[IntKind.wrap_u64];omega
   clear hc hx hu hu0 hxx
   go_wp2
   go_round
   case rel=>exact⟨k+1,om,by go_num,by rw[HU.out,HXX.out];first|rfl|(congr 1;omega)⟩
   case measure=>simp[intOf];omega
  ·obtain rfl:k=n:=om
   clear hc
   go_wp2
   go_ret
   exact⟨bY (by rw[List.take_of_length_le (by have:=HL.out;omega)]),rfl⟩
end Go.Proofs.YtmflnpdmlfmcpaaGreatDoor
namespace Go.Proofs.YtmflnpdmlfmcpaaGreatDoor
def bD (n:Nat):Nat->List UInt8
 | 0=>[]
 | k+1=>UInt8.ofNat (n/256 ^ k%256)::bD n k
theorem bo (n k:Nat):(bD n k).length=k:=by
 induction k with
 | zero=>rfl
 | succ k ih=>simp[bD,ih]
theorem vH (b:UInt8)(l:List UInt8):dU (b::l)=b.toNat*256 ^ l.length+dU l:=by
 have gen:∀(l:List UInt8) (z:Nat),l.foldl (fun n b=>n*256+b.toNat) z=z*256 ^ l.length+dU l:=by
  intro l
  induction l with
  | nil=>intro z;simp[dU]
  | cons c l ih =>
   intro z
   have h1:=ih (z*256+c.toNat)
   have h2:dU (c::l)=c.toNat*256 ^ l.length+dU l:=by
    have:=ih (0*256+c.toNat)
    simpa[dU] using this
   rw[List.foldl_cons,h1,h2,List.length_cons,Nat.pow_succ,Nat.add_mul]
   rw[show z*256*256 ^ l.length=z*(256 ^ l.length*256) by rw[Nat.mul_assoc,Nat.mul_comm 256]]
   omega
 have:=gen l (0*256+b.toNat)
 simpa[dU] using this
theorem nP (n k:Nat):dU (bD n k)=n%256 ^ k:=by
 induction k with
 | zero=>simp[bD,dU,Nat.mod_one]
 | succ k ih =>
  rw[bD,vH,bo,ih,UInt8.toNat_ofNat']
  have h1:n/256 ^ k%256%2 ^ 8=n/256 ^ k%256:=om
  rw[h1,Nat.pow_succ,Nat.mod_mul,Nat.mul_comm,Nat.add_comm]
end Go.Proofs.YtmflnpdmlfmcpaaGreatDoor
namespace Go.Proofs.YtmflnpdmlfmcpaaGreatDoor
open Go.RowKit
variable {Nz : Nat}
def fe (n k t:Nat):List UInt8:=List.replicate (k-t) 0++bD n t
theorem sk (n k:Nat):fe n k 0=List.replicate k 0:=by simp[fe,bD]
theorem sq (n k:Nat):fe n k k=bD n k:=by simp[fe]
theorem tU (n k t:Nat)(h:t<k):(fe n k t).set (k-t-1) (UInt8.ofNat (n/256 ^ t%256))=fe n k (t+1):=by
 unfold fe
 rw[show k-t=(k-(t+1))+1 by omega,List.replicate_succ',List.append_assoc,List.set_append_right _ _ (by simp)]
 simp[bD]
theorem it (n k:Nat)(w:World)(hn:n<18446744073709551616)(hk1:1<=k)(hk:k<=8) :
  Calls Tryz.prog 106 #[.int .u64 n,.int .i64 k] w fun e w'=>e=.returned (.slice (some ⟨w.heap.size,0,none⟩) k k)/\ac w' w.heap.size 5 (af (bD n k))/\Below w.heap.size w w':=by
 have hmk:=run_make_row' (P:=Tryz.prog) 40 5 (.int .u8 0) 1 Tryz.underlying40 jv rfl .i64 .i64 k om om
 rw[gB]at hmk
 obtain⟨Z,hZ⟩:∃Z:List Value,Z=List.replicate k (.int .u8 0):=⟨_,rfl⟩
 rw[<-hZ]at hmk
 have hZ2:Z=af (fe n k 0):=by rw[hZ,sk];simp[af]
 have HZ:=aa hZ2
 clear hZ hZ2
 go_enter Tryz.func106,Tryz.ntmps106
 go_wp2
 go_loopw [0,6] (fun s0 s6 wr=>∃t:Nat,t<=k/\s0=.int .u64 ((n/256 ^ t:Nat):Int)/\s6=.int .i64 ((k:Int)-1-t)/\ac wr w.heap.size 5 (af (fe n k t))/\Below w.heap.size w wr) (fun _ s6 _=>(intOf s6+1).toNat)
 case atStart=>exact⟨0,Nat.zero_le _,by simp,by simp,by rw[<-HZ.out];exact ak _ rfl,(Below.refl _ w).alloc (Nat.le_refl _) _⟩
 case round =>
  clear hmk
  obtain⟨t,ht,rfl,rfl,hrow,hB⟩:=hrel
  by_cases hlt:t<k
  ·obtain⟨ix,hix⟩:∃ix:Nat,ix=k-t-1:=⟨_,rfl⟩
   have hixI:(k:Int)-1-t=(ix:Int):=om
   obtain⟨m,hm⟩:=zg (n/256 ^ t)
   have hm1:m<=n:=by rw[hm];exact Nat.div_le_self _ _
   have hnext:n/256 ^ (t+1)=m/256:=by rw[hm,Nat.pow_succ,Nat.div_div_eq_div_mul]
   have hset:=tU n k t hlt
   rw[<-hm,<-hix]at hset
   have hlen:(fe n k t).length=k:=by simp[fe,bo];omega
   obtain⟨y,hy⟩:=av hlen (show ix<k by omega)
   have hc0:wr.cell? ⟨w.heap.size,ix,none⟩=some (.int .u8 y.toNat):=(ac.cell hrow ix).trans (by simp only[af,List.getElem?_map,hy];rfl)
   have hfz:wr.frozen? ⟨w.heap.size,ix,none⟩=false:=frozen_of_row _ _ _ _ _ hrow
   have hv:IntKind.u8.wrap ((m:Int)%256)=((m%256:Nat):Int):=by rw[IntKind.wrap_u8];omega
   have hnew:ac (wr.setCell ⟨w.heap.size,ix,none⟩ (.int .u8 ((m%256:Nat):Int))) w.heap.size 5 (af (fe n k (t+1))):=by
    have h1:=ax hrow ix (.int .u8 ((m%256:Nat):Int))
    unfold ac
    rw[h1,<-hset]
    have h2:(UInt8.ofNat (m%256)).toNat=m%256:=by rw[UInt8.toNat_ofNat'];omega
    simp[af,List.map_set,h2]
   have HNEW:=aa hnew
   have HNX:=aa hnext
   have hBn:=hB.setCell (p:=⟨w.heap.size,ix,none⟩) (Nat.le_refl _) (.int .u8 ((m%256:Nat):Int))
   have k0:(0:Int)<=(ix:Int):=om
   have k1:(ix:Int)<(k:Int):=om
   have hxl:ix<k:=om
   have hxt:(ix:Int)-1=(k:Int)-1-((t+1:Nat):Int):=om
   have HXT:=aa hxt
   rw[hixI,<-hm]
   clear hix hixI hm hnext hset hlen hy hnew hrow hxt
   go_wp2
   go_roundw
   case rel =>
    have e1:((m%256:Nat):Int)=(m:Int)%256:=om
    have h1:=HNEW.out
    rw[e1]at h1 hBn
    exact⟨t+1,om,by rw[HNX.out];simp,by rw[HXT.out],h1,hBn⟩
   case measure=>simp[intOf]
  ·obtain rfl:t=k:=om
   rw[sq]at hrow
   go_wp2
   go_ret
   exact⟨rfl,hrow,hB⟩
end Go.Proofs.YtmflnpdmlfmcpaaGreatDoor
namespace Go.Proofs.YtmflnpdmlfmcpaaGreatDoor
open Go.RowKit
variable {Nz : Nat}
def cY (L:List UInt8)(off k n t:Nat):List UInt8:=L.take (off+(k-t))++bD n t++L.drop (off+k)
theorem lq (L:List UInt8)(off k n:Nat):cY L off k n 0=L:=by simp[cY,bD]
theorem nc (L:List UInt8)(off k n t:Nat)(h:t<k)(hL:off+k<=L.length):(cY L off k n t).set (off+(k-t-1)) (UInt8.ofNat (n/256 ^ t%256))=cY L off k n (t+1):=by
 unfold cY
 have e:off+(k-t)=(off+(k-(t+1)))+1:=om
 obtain⟨b,hb⟩:∃b,L[off+(k-(t+1))]? = some b:=⟨_,List.getElem?_eq_getElem om⟩
 rw[e,cp L _ b hb,List.append_assoc,List.append_assoc,List.set_append_right _ _ (by simp;omega)]
 have e2:off+(k-t-1)-(List.take (off+(k-(t+1))) L).length=0:=by simp;omega
 rw[e2]
 simp[bD]
theorem jR (L:List UInt8)(off k n t:Nat)(h:t<=k)(hL:off+k<=L.length):(cY L off k n t).length=L.length:=by
 simp[cY,bo]
 omega
theorem ig (g off k c n:Nat)(ty:TypeId)(L:List UInt8)(w:World)(_hn:n<18446744073709551616)(hk1:1<=k)(hk:k<=8)(hL:off+k<=L.length)(h:ac w g ty (af L)) :
  Calls Tryz.prog 90 #[.slice (some ⟨g,off,none⟩) k c,.int .u64 n] w fun e w'=>(∃v,e=.returned v)/\ac w' g ty (af (cY L off k n k))/\Below g w w'/\w'.heap.size=w.heap.size/\∀q,q≠g->w'.heap[q]? = w.heap[q]? := by
 go_enter Tryz.func90,Tryz.ntmps90
 go_wp2
 go_loopw [7] (fun s7 wr=>∃t:Nat,t<=k/\s7=.int .i64 t/\ac wr g ty (af (cY L off k n t))/\Below g w wr/\wr.heap.size=w.heap.size/\∀q,q≠g->wr.heap[q]? = w.heap[q]?) (fun s7 _=>k-(intOf s7).toNat)
 case atStart=>exact⟨0,Nat.zero_le _,rfl,by rw[lq];exact h,Below.refl _ _,rfl,fun _ _=>rfl⟩
 case round =>
  obtain⟨t,ht,rfl,hrow,hB,hsz,hoth⟩:=hrel
  by_cases hlt:t<k
  ·obtain⟨i,hi⟩:∃i:Nat,i=k-t-1:=⟨_,rfl⟩
   have hiI:(k:Int)-1-(t:Int)=(i:Int):=om
   have hset:=nc L off k n t hlt hL
   rw[<-hi]at hset
   have hlen:=jR L off k n t ht hL
   obtain⟨y,hy⟩:=av hlen (show off+i<L.length by omega)
   have hc0:wr.cell? ⟨g,off+i,none⟩=some (.int .u8 y.toNat):=(ac.cell hrow _).trans (by simp only[af,List.getElem?_map,hy];rfl)
   have hfz:wr.frozen? ⟨g,off+i,none⟩=false:=frozen_of_row _ _ _ _ _ hrow
   have k0:(0:Int)<=(i:Int):=om
   have k1:(i:Int)<(k:Int):=om
   have k2:(t:Int)<(k:Int):=om
   have w1:IntKind.i64.wrap (8*(t:Int))=8*(t:Int):=by rw[IntKind.wrap_i64];omega
   have hv:(n:Int)/2 ^ (8*t)%256=((n/256 ^ t%256:Nat):Int):=by
    have h2:(2:Nat) ^ (8*t)=256 ^ t:=by rw[Nat.pow_mul]
    have h3:(2:Int) ^ (8*t)=((2 ^ (8*t):Nat):Int):=by simp
    rw[h3,h2]
    first|rfl|simp
   have hnew:ac (wr.setCell ⟨g,off+i,none⟩ (.int .u8 ((n:Int)/2 ^ (8*t)%256))) g ty (af (cY L off k n (t+1))):=by
    have h1:=ax hrow (off+i) (.int .u8 ((n:Int)/2 ^ (8*t)%256))
    unfold ac
    rw[h1,<-hset,hv]
    have h2:(UInt8.ofNat (n/256 ^ t%256)).toNat=n/256 ^ t%256:=by rw[UInt8.toNat_ofNat'];omega
    simp[af,List.map_set,h2]
   have HNEW:=aa hnew
   have hBn:=hB.setCell (p:=⟨g,off+i,none⟩) (Nat.le_refl _) (.int .u8 ((n:Int)/2 ^ (8*t)%256))
   clear hi hset hlen hy hv hnew
   go_wp2
   exact⟨⟨t+1,om,by simp,HNEW.out,hBn,by simpa using hsz,fun q hq=>(Below.heap_setCell _ _ _ _ hq).trans (hoth q hq)⟩,by simp[intOf];omega⟩
  ·obtain rfl:t=k:=om
   go_wp2
   refine bodyPost_end (by simp[results,Tryz.results90,go_sem];try rfl) rfl ?_
   exact⟨⟨_,rfl⟩,hrow,hB,hsz,hoth⟩
end Go.Proofs.YtmflnpdmlfmcpaaGreatDoor
namespace Go.Proofs.YtmflnpdmlfmcpaaGreatDoor
open Go.RowKit
variable {Nz : Nat}
def fO (n:Nat):Nat:=if n%2=1 then (n/2) ^^^ 3988292384 else n/2
def jw : Nat->Nat->Nat
 | 0,n=>n
 | j+1,n=>fO (jw j n)
def kh (n:Nat)(b:UInt8):Nat:=jw 8 (n ^^^ b.toNat)
def jS (bs:List UInt8):Nat:=bs.foldl kh 4294967295
def ne (bs:List UInt8):Nat:=jS bs ^^^ 4294967295
theorem tV {n:Nat}(h:n<4294967296):fO n<4294967296:=by
 unfold fO
 split
 ·exact Nat.xor_lt_two_pow (n:=32) om om
 ·omega
theorem qO {n:Nat}(h:n<4294967296)(j:Nat):jw j n<4294967296:=by
 induction j with
 | zero=>exact h
 | succ j ih=>exact tV ih
theorem tW {n:Nat}(h:n<4294967296)(b:UInt8):kh n b<4294967296:=
 qO (Nat.xor_lt_two_pow (n:=32) h (by have:=b.toNat_lt;omega)) 8
theorem vI (l:List UInt8)(k:Nat)(b:UInt8)(h:l[k]? = some b):jS (l.take (k+1))=kh (jS (l.take k)) b:=by
 unfold jS
 rw[cp l k b h,List.foldl_append]
 rfl
theorem o9 (l:List UInt8):jS l<4294967296:=by
 have gen:∀(l:List UInt8) (z:Nat),z<4294967296->l.foldl kh z<4294967296:=by
  intro l
  induction l with
  | nil=>intro z h;exact h
  | cons b l ih=>intro z h;exact ih _ (tW h b)
 exact gen l _ om
theorem Dh (a:Option Addr)(n c:Nat)(l:List UInt8)(w:World)(hn:n<=100000)(h:Sl 1 ai w a n l) :
  Calls Tryz.prog 107 #[.slice a n c] w fun e w'=>e=.returned (.int .u32 (ne l))/\w=w':=by
 have HL:=aa h.len
 have hend:∀z:Nat,z<4294967296->bits .xor .u32 (z:Int) 4294967295=((z ^^^ 4294967295:Nat):Int):=fun z hz=>u32_xor_nat z 4294967295 hz om
 rcases h.bytes with h0|⟨b,off,rfl,hc⟩
 ·obtain rfl:=h0
  have he:=hend 4294967295 om
  clear h hend
  go_enter Tryz.func107,Tryz.ntmps107
  go_wp2
  refine wp_loop_rounds 1 ?_
  rw[rounds_succ]
  go_wp2
  go_ret
  exact⟨bY (by rw[List.eq_nil_of_length_eq_zero HL.out];exact he),rfl⟩
 clear h
 have HEND:=aa hend
 clear hend
 go_enter Tryz.func107,Tryz.ntmps107
 go_wp2
 go_loop [3,4] (fun z i=>∃k:Nat,k<=n/\i=.int .i64 k/\z=.int .u32 (jS (l.take k))) (fun _ i=>n-(intOf i).toNat)
 case atStart=>exact⟨0,Nat.zero_le _,rfl,rfl⟩
 case round =>
  obtain⟨k,hk,rfl,rfl⟩:=hrel
  by_cases hlt:k<n
  ·obtain⟨x,hx⟩:=av HL.out hlt
   have hcell:=hc k x hx
   have hu:=vI l k x hx
   have hs:=o9 (l.take k)
   obtain⟨u,hu0⟩:=zg (jS (l.take k))
   rw[<-hu0]at hu hs ⊢
   have HU:=aa hu
   have hxl:=x.toNat_lt
   obtain⟨v,hv⟩:=zg (u ^^^ x.toNat)
   have hvl:v<4294967296:=by rw[hv];exact Nat.xor_lt_two_pow (n:=32) hs om
   have hxor:bits .xor .u32 (u:Int) (x.toNat:Int)=(v:Int):=by rw[hv];exact u32_xor_nat u x.toNat hs om
   have w1:IntKind.u32.wrap (x.toNat:Int)=(x.toNat:Int):=by rw[IntKind.wrap_u32];omega
   have HV:=aa hv
   clear hc hx hu hu0 hv
   go_wp2
   go_loop [3,5] (fun z i=>∃j:Nat,j<=8/\i=.int .i64 j/\z=.int .u32 (jw j v)) (fun _ i=>8-(intOf i).toNat)
   case atStart=>exact⟨0,Nat.zero_le _,rfl,rfl⟩
   case round =>
    obtain⟨j,hj,rfl,rfl⟩:=hrel
    by_cases hj8:j<8
    ·have hq:=qO hvl j
     have hst:jw (j+1) v=fO (jw j v):=rfl
     have HST:=aa hst
     obtain⟨q,hq0⟩:=zg (jw j v)
     have HST:Hid (jw (j+1) v=fO q):=by rw[hq0];exact hst
     rw[<-hq0]at hq ⊢
     clear hst hq0
     have hxq:bits .xor .u32 ((q:Int)/2) 3988292384=((q/2 ^^^ 3988292384:Nat):Int):=u32_xor_nat (q/2) 3988292384 om om
     by_cases h2:q%2=1
     ·have h3:(q:Int)%2=1:=om
      have HN:Hid (fO q=q/2 ^^^ 3988292384):=by simp[Hid,fO,h2]
      clear h2
      go_wp2
      go_round
      case rel=>exact⟨j+1,om,by go_num,by rw[HST.out,HN.out]⟩
      case measure=>simp[intOf];omega
     ·have h3:(q:Int)%2=0:=om
      have HN:Hid (fO q=q/2):=by simp[Hid,fO,h2]
      clear h2
      go_wp2
      go_round
      case rel=>exact⟨j+1,om,by go_num,by rw[HST.out,HN.out];simp⟩
      case measure=>simp[intOf];omega
    ·obtain rfl:j=8:=om
     go_wp2
     go_round
     case rel=>exact⟨k+1,om,by go_num,by rw[HU.out,kh,<-HV.out]⟩
     case measure=>simp[intOf];omega
  ·obtain rfl:k=n:=om
   have he:=HEND.out (jS l) (o9 l)
   rw[List.take_of_length_le (by have:=HL.out;omega)]
   have hcm:ne l=jS l ^^^ 4294967295:=rfl
   clear hc
   generalize jS l=z at *
   have HCM:=aa hcm
   clear hcm
   go_wp2
   go_ret
   exact⟨bY (by rw[HCM.out]),rfl⟩
end Go.Proofs.YtmflnpdmlfmcpaaGreatDoor
namespace Go.Proofs.YtmflnpdmlfmcpaaGreatDoor
def eh (k kind:Nat)(p:List UInt8):List UInt8:=bD k 2++(UInt8.ofNat kind::UInt8.ofNat p.length::(p++List.replicate (112-p.length) 0))
def eK (g k kind:Nat)(p:List UInt8):List UInt8:=bD g 4++(bD (ne (eh k kind p)) 4++(eh k kind p++bD g 4))
theorem fP {p:List UInt8}(k kind:Nat)(h:p.length<=112):(eh k kind p).length=116:=by
 simp[eh,bo];omega
theorem jT {p:List UInt8}(g k kind:Nat)(h:p.length<=112):(eK g k kind p).length=128:=by
 simp[eK,bo,fP k kind h]
theorem Ae (l:List UInt8):ne l<4294967296:=Nat.xor_lt_two_pow (n:=32) (o9 l) om
theorem DO (n m k:Nat)(h:n%256 ^ k=m%256 ^ k):bD n k=bD m k:=by
 induction k with
 | zero=>rfl
 | succ k ih =>
  have h1:n%256 ^ k=m%256 ^ k:=by
   have h2:=congrArg (· % 256 ^ k) h
   simp only[Nat.mod_mod_of_dvd _ (show 256 ^ k ∣ 256 ^ (k+1) from Nat.pow_dvd_pow _ (Nat.le_succ k))]at h2
   exact h2
  have h3:n/256 ^ k%256=m/256 ^ k%256:=by
   rw[<-Nat.mod_mul_right_div_self,<-Nat.mod_mul_right_div_self,<-Nat.pow_succ,h]
  rw[bD,bD,h3,ih h1]
theorem vE (l:List UInt8):bD (dU l) l.length=l:=by
 induction l with
 | nil=>rfl
 | cons b l ih =>
  have hl:=mb l
  have hb:=b.toNat_lt
  rw[List.length_cons,bD,vH]
  have h1:(b.toNat*256 ^ l.length+dU l)/256 ^ l.length%256=b.toNat:=by
   rw[Nat.mul_comm,Nat.mul_add_div (Nat.pow_pos om),Nat.div_eq_of_lt hl]
   omega
  rw[h1,DO _ (dU l) l.length (by rw[Nat.mul_comm,Nat.mul_add_mod]),ih]
  simp
theorem ub (n k:Nat)(h:n<256 ^ k):dU (bD n k)=n:=by rw[nP,Nat.mod_eq_of_lt h]
def bH (b:List UInt8):Nat:=dU (b.take 4)
def cQ (b:List UInt8):Nat:=dU (b.drop 124)
def bq (b:List UInt8):Nat:=(b.getD 10 0).toNat
def an (b:List UInt8):Nat:=(b.getD 11 0).toNat
def bC (b:List UInt8):List UInt8:=(b.drop 12).take (an b)
def cE (b:List UInt8):Bool:=decide (an b<=112) && decide (bq b<=3) && (decide (2<=bq b) || decide (112<=an b)) && (decide (bq b%2=1) || !decide (an b=0))
def cr (b:List UInt8)(k:Nat):Bool:=cE b && decide (0<bH b) && decide (b=eK (bH b) k (bq b) (bC b))
def Di (b:List UInt8)(k:Nat):Bool:=cE b && decide (0<bH b) && decide (bH b=cQ b) && decide (dU ((b.drop 4).take 4)=ne ((b.drop 8).take 116)) && decide (dU ((b.drop 8).take 2)=k) && decide ((b.drop (12+an b)).take (112-an b)=List.replicate (112-an b) 0)
theorem wj {l:List UInt8}{n:Nat}(h:n<=l.length):∃A R,l=A++R/\A.length=n/\R.length=l.length-n:=
 ⟨l.take n,l.drop n,(List.take_append_drop n l).symm,by simp;omega,by simp⟩
structure xZ (b A B C:List UInt8)(x y:UInt8)(p z T:List UInt8):Prop where
 e:b=A++(B++(C++(x::y::(p++(z++T)))))
 a:A.length=4
 b:B.length=4
 c:C.length=2
 p:p.length=y.toNat
 z:z.length=112-y.toNat
 t:T.length=4
 y:y.toNat<=112
theorem tk {A B C:List UInt8}{x y:UInt8}{R:List UInt8}(ha:A.length=4)(hb:B.length=4)(hc:C.length=2):(A++(B++(C++(x::y::R)))).getD 10 0=x/\(A++(B++(C++(x::y::R)))).getD 11 0=y:=by
 have e:A++(B++(C++(x::y::R)))=(A++(B++C))++(x::y::R):=by simp
 have hl:(A++(B++C)).length=10:=by simp;omega
 rw[e]
 constructor
 ·rw[List.getD,List.getElem?_append_right om,hl];rfl
 ·rw[List.getD,List.getElem?_append_right om,hl];rfl
theorem DP {b:List UInt8}(hb:b.length=128)(hl:an b<=112):∃A B C x y p z T,xZ b A B C x y p z T:=by
 obtain⟨A,R1,rfl,hA,h1⟩:=wj (l:=b) (n:=4) om
 obtain⟨B,R2,rfl,hB,h2⟩:=wj (l:=R1) (n:=4) om
 obtain⟨C,R3,rfl,hC,h3⟩:=wj (l:=R2) (n:=2) om
 replace h3:R3.length=118:=by simp at hb;omega
 match R3,h3 with
 | x::y::R4,h3 =>
  have hy:y.toNat<=112:=by
   unfold an at hl
   rwa [(tk hA hB hC).2]at hl
  simp only[List.length_cons]at h3
  obtain⟨p,R5,rfl,hp,h5⟩:=wj (l:=R4) (n:=y.toNat) om
  obtain⟨z,T,rfl,hz,h6⟩:=wj (l:=R5) (n:=112-y.toNat) om
  exact⟨A,B,C,x,y,p,z,T,rfl,hA,hB,hC,hp,hz,om,hy⟩
 | [x],h3=>simp at h3
 | [],h3=>simp at h3
theorem xZ.fields {b A B C:List UInt8}{x y:UInt8}{p z T:List UInt8}(h:xZ b A B C x y p z T) :
  b.take 4=A/\(b.drop 4).take 4=B/\(b.drop 8).take 116=C++(x::y::(p++z))/\(b.drop 8).take 2=C/\bq b=x.toNat/\an b=y.toNat/\bC b=p/\(b.drop (12+an b)).take (112-an b)=z/\b.drop 124=T:=by
 have hx:bq b=x.toNat:=by unfold bq;rw[h.e,(tk h.a h.b h.c).1]
 have hy:an b=y.toNat:=by unfold an;rw[h.e,(tk h.a h.b h.c).2]
 have e8:b.drop 8=C++(x::y::(p++(z++T))):=by
  rw[h.e,<-List.append_assoc]
  exact List.drop_left' (by simp[h.a,h.b])
 have e12:b.drop 12=p++(z++T):=by
  rw[h.e,show A++(B++(C++(x::y::(p++(z++T)))))=(A++(B++(C++[x,y])))++(p++(z++T)) by simp]
  exact List.drop_left' (by simp[h.a,h.b,h.c])
 refine⟨?_,?_,?_,?_,hx,hy,?_,?_,?_⟩
 ·rw[h.e];exact List.take_left' h.a
 ·rw[h.e,List.drop_left' h.a];exact List.take_left' h.b
 ·rw[e8,show C++(x::y::(p++(z++T)))=(C++(x::y::(p++z)))++T by simp]
  exact List.take_left' (by simp[h.c,h.p,h.z];have:=h.y;omega)
 ·rw[e8];exact List.take_left' h.c
 ·rw[bC,e12,hy];exact List.take_left' h.p
 ·rw[hy,h.e,show A++(B++(C++(x::y::(p++(z++T)))))=(A++(B++(C++(x::y::p))))++(z++T) by simp]
  rw[List.drop_left' (by simp[h.a,h.b,h.c,h.p];omega)]
  exact List.take_left' h.z
 ·rw[h.e,show A++(B++(C++(x::y::(p++(z++T)))))=(A++(B++(C++(x::y::(p++z)))))++T by simp]
  exact List.drop_left' (by simp[h.a,h.b,h.c,h.p,h.z];have:=h.y;omega)
theorem Ei {b:List UInt8}{k:Nat}(hb:b.length=128)(hk:k<65536)(hl:an b<=112) :
  b=eK (bH b) k (bq b) (bC b) ↔ bH b=cQ b/\dU ((b.drop 4).take 4)=ne ((b.drop 8).take 116)/\dU ((b.drop 8).take 2)=k/\(b.drop (12+an b)).take (112-an b)=List.replicate (112-an b) 0:=by
 obtain⟨A,B,C,x,y,p,z,T,h⟩:=DP hb hl
 obtain⟨f1,f2,f3,f4,f5,f6,f7,f8,f9⟩:=h.fields
 rw[f8,f6]
 unfold bH cQ
 rw[f1,f2,f3,f4,f5,f7,f9]
 have hA:=mb A
 have hT:=mb T
 rw[h.a]at hA
 rw[h.t]at hT
 have hp:UInt8.ofNat p.length=y:=by rw[h.p];simp
 have hx:UInt8.ofNat x.toNat=x:=by simp
 have hbl:(C++(x::y::(p++z))).length=116:=by simp[h.c,h.p,h.z];have:=h.y;omega
 constructor
 ·intro he
  rw[h.e]at he
  unfold eK at he
  obtain⟨e1,he⟩:=List.append_inj he (by rw[h.a,bo])
  obtain⟨e2,he⟩:=List.append_inj he (by rw[h.b,bo])
  rw[show C++(x::y::(p++(z++T)))=(C++(x::y::(p++z)))++T by simp]at he
  obtain⟨e3,e4⟩:=List.append_inj he (by rw[hbl,fP _ _ (by rw[h.p];exact h.y)])
  rw[e3]
  refine⟨?_,?_,?_,?_⟩
  ·rw[e4,ub _ _ hA]
  ·rw[e2,ub _ _ (Ae _)]
  ·unfold eh at e3
   obtain⟨e5,_⟩:=List.append_inj e3 (by rw[h.c,bo])
   rw[e5,ub _ _ hk]
  ·unfold eh at e3
   obtain⟨_,e6⟩:=List.append_inj e3 (by rw[h.c,bo])
   simp only[List.cons.injEq]at e6
   obtain⟨_,_,e7⟩:=e6
   rw[<-h.p]
   exact(List.append_inj e7 rfl).2
 ·rintro⟨g1,g2,g3,g4⟩
  have b1:eh k x.toNat p=C++(x::y::(p++z)):=by
   unfold eh
   rw[hx,hp,<-g3,<-h.c,vE,h.p,<-g4]
  unfold eK
  rw[b1,<-g2]
  have a1:bD (dU A) 4=A:=by rw[<-h.a,vE]
  have a2:bD (dU B) 4=B:=by rw[<-h.b,vE]
  have a3:bD (dU A) 4=T:=by rw[g1,<-h.t,vE]
  rw[a2]
  have e:A++(B++(C++(x::y::(p++z))++T))=b:=by rw[h.e];simp
  rw[<-e]
  congr 1
  ·exact a1.symm
  ·rw[a3]
theorem Ej {b:List UInt8}{k:Nat}(hb:b.length=128)(hk:k<65536):Di b k=cr b k:=by
 unfold Di cr
 cases hf:cE b
 ·simp
 have hl:an b<=112:=by
  unfold cE at hf
  simp only[Bool.and_eq_true,decide_eq_true_eq]at hf
  exact hf.1.1.1
 have hi:=Ei hb hk hl
 rw[Bool.eq_iff_iff]
 simp only[Bool.and_eq_true,decide_eq_true_eq]
 constructor
 ·rintro⟨⟨⟨⟨⟨_,h1⟩,h2⟩,h3⟩,h4⟩,h5⟩
  exact⟨⟨trivial,h1⟩,hi.2 ⟨h2,h3,h4,h5⟩⟩
 ·rintro⟨⟨_,h1⟩,h⟩
  obtain⟨h2,h3,h4,h5⟩:=hi.1 h
  exact⟨⟨⟨⟨⟨trivial,h1⟩,h2⟩,h3⟩,h4⟩,h5⟩
def du (g:Nat):List (List UInt8)->Nat->Bool->List UInt8->Option (List UInt8 × Nat)
 | [],_,_,_=>none
 | s::rest,k,first,acc=>if cr s k && (decide (bq s%2=1) == first) && decide (bH s=g) then (if 2<=bq s then some (acc++bC s,k+1) else du g rest (k+1) false (acc++bC s)) else none
def cw (l:List (List UInt8))(at':Nat):Nat:=bH (l.getD at' [])
def el (l:List (List UInt8))(at':Nat):Option (List UInt8 × Nat):=du (cw l at') (l.drop at') at' true []
def cO (l:List (List UInt8)):Nat->Nat->Nat->List (List UInt8)
 | 0,_,_=>[]
 | f+1,at',last=>match el l at' with
  | none=>[]
  | some (b,nx)=>if cw l at'<last then [] else b::cO l f nx (cw l at')
def bN (l:List (List UInt8)):List (List UInt8):=cO l (l.length+1) 0 0
theorem i3 {l:List (List UInt8)}{k:Nat}{s:List UInt8}(h:l[k]? = some s):l.drop k=s::l.drop (k+1):=by
 obtain⟨hk,rfl⟩:=List.getElem?_eq_some_iff.1 h
 exact List.drop_eq_getElem_cons hk
theorem lr {l:List (List UInt8)}{k:Nat}(h:l.length<=k)(g:Nat)(first:Bool)(acc:List UInt8):du g (l.drop k) k first acc=none:=by
 rw[List.drop_eq_nil_of_le h];rfl
theorem pG {l:List (List UInt8)}{k:Nat}{s:List UInt8}(h:l[k]? = some s)(g:Nat)(first:Bool)(acc:List UInt8)(hg:(cr s k && (decide (bq s%2=1) == first) && decide (bH s=g))=false):du g (l.drop k) k first acc=none:=by
 rw[i3 h,du,hg];rfl
theorem kE {l:List (List UInt8)}{k:Nat}{s:List UInt8}(h:l[k]? = some s)(g:Nat)(first:Bool)(acc:List UInt8)(hg:(cr s k && (decide (bq s%2=1) == first) && decide (bH s=g))=true)(h2:bq s<2):du g (l.drop k) k first acc=du g (l.drop (k+1)) (k+1) false (acc++bC s):=by
 rw[i3 h,du,hg,if_pos rfl,if_neg om]
theorem nQ {l:List (List UInt8)}{k:Nat}{s:List UInt8}(h:l[k]? = some s)(g:Nat)(first:Bool)(acc:List UInt8)(hg:(cr s k && (decide (bq s%2=1) == first) && decide (bH s=g))=true)(h2:2<=bq s):du g (l.drop k) k first acc=some (acc++bC s,k+1):=by
 rw[i3 h,du,hg,if_pos rfl,if_pos h2]
theorem nR {g:Nat}{l:List (List UInt8)}{k:Nat}{first:Bool}{acc b:List UInt8}{nx:Nat}(h:du g l k first acc=some (b,nx)):k<nx/\nx<=k+l.length/\b.length<=acc.length+255*l.length:=by
 induction l generalizing k first acc with
 | nil=>cases h
 | cons s rest ih =>
  rw[du]at h
  have hp:(bC s).length<=255:=by
   have:=(s.getD 11 0).toNat_lt
   simp only[bC,an,List.length_take]
   omega
  split at h
  ·split at h
   ·simp only[Option.some.injEq,Prod.mk.injEq]at h
    obtain⟨rfl,rfl⟩:=h
    simp only[List.length_append,List.length_cons]
    omega
   ·obtain⟨h1,h2,h3⟩:=ih h
    simp only[List.length_append,List.length_cons]at h3 ⊢
    omega
  ·cases h
theorem fu {l:List (List UInt8)}{at' nx:Nat}{b:List UInt8}(h:el l at'=some (b,nx)):at'<nx/\nx<=l.length/\b.length<=255*l.length:=by
 obtain⟨h1,h2,h3⟩:=nR h
 simp only[List.length_drop,List.length_nil]at h2 h3
 rcases Nat.lt_or_ge at' l.length with h4|h4
 ·exact⟨h1,om,om⟩
 ·omega
end Go.Proofs.YtmflnpdmlfmcpaaGreatDoor
namespace Go.Proofs.YtmflnpdmlfmcpaaGreatDoor
open Go.RowKit
variable {Nz : Nat}
theorem me (a:Option Addr)(n c:Nat)(l:List UInt8)(w:World)(hn:n<=100000)(h:Sl 1 ai w a n l) :
  Calls Tryz.prog 91 #[.slice a n c] w fun e w'=>e=.returned (.int .u32 (ne l))/\w=w':=by
 have HL:=aa h.len
 have hend:∀z:Nat,z<4294967296->bits .xor .u32 4294967295 (z:Int)=((z ^^^ 4294967295:Nat):Int):=fun z hz=>by rw[Nat.xor_comm];exact u32_xor_nat 4294967295 z om hz
 rcases h.bytes with h0|⟨b,off,rfl,hc⟩
 ·obtain rfl:=h0
  have he:=hend 4294967295 om
  clear h hend
  go_enter Tryz.func91,Tryz.ntmps91
  go_wp2
  refine wp_loop_rounds 1 ?_
  rw[rounds_succ]
  go_wp2
  go_ret
  exact⟨bY (by rw[List.eq_nil_of_length_eq_zero HL.out];exact he),rfl⟩
 clear h
 have HEND:=aa hend
 clear hend
 go_enter Tryz.func91,Tryz.ntmps91
 go_wp2
 go_loop [3,8] (fun z i=>∃k:Nat,k<=n/\i=.int .i64 k/\z=.int .u32 (jS (l.take k))) (fun _ i=>n-(intOf i).toNat)
 case atStart=>exact⟨0,Nat.zero_le _,rfl,rfl⟩
 case round =>
  obtain⟨k,hk,rfl,rfl⟩:=hrel
  by_cases hlt:k<n
  ·obtain⟨x,hx⟩:=av HL.out hlt
   have hcell:=hc k x hx
   have hu:=vI l k x hx
   have hs:=o9 (l.take k)
   obtain⟨u,hu0⟩:=zg (jS (l.take k))
   rw[<-hu0]at hu hs ⊢
   have HU:=aa hu
   have hxl:=x.toNat_lt
   obtain⟨v,hv⟩:=zg (u ^^^ x.toNat)
   have hvl:v<4294967296:=by rw[hv];exact Nat.xor_lt_two_pow (n:=32) hs om
   have hxor:bits .xor .u32 (u:Int) (x.toNat:Int)=(v:Int):=by rw[hv];exact u32_xor_nat u x.toNat hs om
   have w1:IntKind.u32.wrap (x.toNat:Int)=(x.toNat:Int):=by rw[IntKind.wrap_u32];omega
   have HV:=aa hv
   clear hc hx hu hu0 hv
   go_wp2
   go_loop [3,16] (fun z i=>∃j:Nat,j<=8/\i=.int .i64 j/\z=.int .u32 (jw j v)) (fun _ i=>8-(intOf i).toNat)
   case atStart=>exact⟨0,Nat.zero_le _,rfl,rfl⟩
   case round =>
    obtain⟨j,hj,rfl,rfl⟩:=hrel
    by_cases hj8:j<8
    ·have hq:=qO hvl j
     have hst:jw (j+1) v=fO (jw j v):=rfl
     have HST:=aa hst
     obtain⟨q,hq0⟩:=zg (jw j v)
     have HST:Hid (jw (j+1) v=fO q):=by rw[hq0];exact hst
     rw[<-hq0]at hq ⊢
     clear hst hq0
     have hxq:bits .xor .u32 ((q:Int)/2) 3988292384=((q/2 ^^^ 3988292384:Nat):Int):=u32_xor_nat (q/2) 3988292384 om om
     have hxz:bits .xor .u32 ((q:Int)/2) 0=((q/2:Nat):Int):=by
      have:=u32_xor_nat (q/2) 0 om om
      rw[Nat.xor_zero]at this
      exact this
     have hand:bits .and .u32 (q:Int) 1=((q%2:Nat):Int):=by
      have:=u32_and_nat q 1 hq om
      rw[Nat.and_one_is_mod]at this
      exact this
     by_cases h2:q%2=1
     ·rw[h2]at hand
      have hand:bits .and .u32 (q:Int) 1=1:=hand
      have HN:Hid (fO q=q/2 ^^^ 3988292384):=by simp[Hid,fO,h2]
      clear h2 hxz
      go_wp2
      go_round
      case rel=>exact⟨j+1,om,by go_num,by rw[HST.out,HN.out]⟩
      case measure=>simp[intOf];omega
     ·rw[show q%2=0 by omega]at hand
      have hand:bits .and .u32 (q:Int) 1=0:=hand
      have HN:Hid (fO q=q/2):=by simp[Hid,fO,h2]
      clear h2 hxq
      go_wp2
      go_round
      case rel=>exact⟨j+1,om,by go_num,by rw[HST.out,HN.out];simp⟩
      case measure=>simp[intOf];omega
    ·obtain rfl:j=8:=om
     go_wp2
     go_round
     case rel=>exact⟨k+1,om,by go_num,by rw[HU.out,kh,<-HV.out]⟩
     case measure=>simp[intOf];omega
  ·obtain rfl:k=n:=om
   have he:=HEND.out (jS l) (o9 l)
   rw[List.take_of_length_le (by have:=HL.out;omega)]
   have hcm:ne l=jS l ^^^ 4294967295:=rfl
   clear hc
   generalize jS l=z at *
   have HCM:=aa hcm
   clear hcm
   go_wp2
   go_ret
   exact⟨bY (by rw[HCM.out];exact he),rfl⟩
end Go.Proofs.YtmflnpdmlfmcpaaGreatDoor
namespace Go.Proofs.YtmflnpdmlfmcpaaGreatDoor
open Go.RowKit
variable {Nz : Nat}
def aj.canRead (d:aj)(i:Int):Bool:=d.runs && decide (0<=i) && decide (i<d.secs.length)
theorem ls {d:aj}(h:d.okB=true):1<=d.secs.length/\d.secs.length<=4096/\d.pend.length<=4096:=by
 simp only[aj.okB,Bool.and_eq_true,decide_eq_true_eq]at h
 omega
theorem Du {d:aj}(h:d.check=0):d.okB=true:=by
 unfold aj.check at h
 cases hk:d.okB
 ·simp[hk]at h
 ·rfl
end Go.Proofs.YtmflnpdmlfmcpaaGreatDoor
namespace Go.Proofs.YtmflnpdmlfmcpaaGreatDoor
open Go.RowKit Go.Shelf
variable {Nz : Nat}
attribute [local go_sem] Oper.semAt_some
theorem vJ {w:World}{a:Option Addr}{n:Nat}{ps:List (Int × List UInt8)}(h:Sl 2 (ie Nz) w a n ps):∃(p:Nat->Int) (sa:Nat->Option Addr) (sn sc:Nat->Nat),
  (n=0\/∃b off,a=some ⟨b,off,none⟩/\b<w.heap.size/\∀j,j<n->w.cell? ⟨b,off+j*2,none⟩=some (.int .i64 (p j))/\w.cell? ⟨b,off+j*2+1,none⟩=some (.slice (sa j) (sn j) (sc j))) /\
  (∀(j:Nat) x,ps[j]? = some x->p j=x.1/\aN Nz w [.slice (sa j) (sn j) (sc j)] x.2):=by
 have hl:=h.len
 rcases h.writes with rfl|⟨b,off,rfl,hc⟩
 ·refine⟨fun _=>0,fun _=>none,fun _=>0,fun _=>0,.inl rfl,fun j x hx => ?_⟩
  rw[List.eq_nil_of_length_eq_zero hl]at hx
  simp at hx
 ·have hex:∀j:Nat,∃q:Int × Option Addr × Nat × Nat,∀x,ps[j]? = some x->q.1=x.1/\aN Nz w [.slice q.2.1 q.2.2.1 q.2.2.2] x.2/\w.cell? ⟨b,off+j*2,none⟩=some (.int .i64 q.1)/\w.cell? ⟨b,off+j*2+1,none⟩=some (.slice q.2.1 q.2.2.1 q.2.2.2):=by
   intro j
   cases hj:ps[j]? with
   | none=>exact⟨(0,none,0,0),fun x hx=>by cases hx⟩
   | some x =>
    obtain⟨xa,xn,xc,h1,h2,h3,h4,h5⟩:=hc j x hj
    exact⟨(x.1,xa,xn,xc),fun y hy=>by cases hy;exact⟨rfl,ti h hj h5,h4,h5⟩⟩
  obtain⟨q,hq⟩:=Classical.axiomOfChoice hex
  refine⟨fun j=>(q j).1,fun j=>(q j).2.1,fun j=>(q j).2.2.1,fun j=>(q j).2.2.2,?_,fun j x hx=>⟨(hq j x hx).1,(hq j x hx).2.1⟩⟩
  by_cases h0:n=0
  ·exact .inl h0
  ·have hcell:∀j,j<n->w.cell? ⟨b,off+j*2,none⟩=some (.int .i64 (q j).1)/\w.cell? ⟨b,off+j*2+1,none⟩=some (.slice (q j).2.1 (q j).2.2.1 (q j).2.2.2):=fun j hj=>by
    obtain⟨x,hx⟩:=av hl hj
    exact(hq j x hx).2.2
   exact .inr ⟨b,off,rfl,World.block_lt_of_cell? _ _ (hcell 0 om).1,hcell⟩
end Go.Proofs.YtmflnpdmlfmcpaaGreatDoor
namespace Go.Proofs.YtmflnpdmlfmcpaaGreatDoor
open Go.RowKit
theorem x8 (b off n c:Nat)(w:World)(h:n<=c) :
  Calls Tryz.prog 88 #[.slice (some ⟨b,off,none⟩) n c] w fun e w'=>e=.returned (.slice (some ⟨b,off,none⟩) n n)/\w=w':=by
 go_enter Tryz.func88,Tryz.ntmps88
 go_wp2
 go_ret
 exact⟨rfl,rfl⟩
theorem yb (w:World):Calls Tryz.prog 88 #[.slice none 0 0] w fun e w'=>e=.returned (.slice none 0 0)/\w=w':=by
 go_enter Tryz.func88,Tryz.ntmps88
 go_wp2
 go_ret
 exact⟨rfl,rfl⟩
theorem Dw : (Tryz.prog.info? 64).map (fun i=>(i.zero,i.size,i.bytes))=some (some (.agg #[.int .i64 0,.slice none 0 0]),2,32):=kr
theorem tX (ad:Addr)(n c:Nat)(ws:List Value)(w:World)(hn:n<=4096)(hl:ws.length=n*2)(hc:∀j u,ws[j]? = some u->w.cell? (ad.add j)=some u)(h1:∀u ∈ ws,u.oneCell'=true) :
  Calls Tryz.prog 89 #[.slice (some ad) n c] w fun e w'=>(∃v,e=.returned v/\w'.ownsRow w.heap.size 64 2 v n ws/\v ≠ .slice none 0 0)/\Below w.heap.size w w':=by
 have he:∀w:World,(binOp .eql 25 (.slice (some ad) n c) (.slice none 0 0)).run Tryz.prog w=.ok (.bool false) w:=fun _=>rfl
 obtain⟨i0,hi,hz0,hz1,hz2⟩:=info_parts Dw
 go_enter Tryz.func89,Tryz.ntmps89
 have hc1:Hid (∀x,∀j u,ws[j]? = some u->(w.alloc x).cell? (ad.add j)=some u):=fun x j u hu=>ag ((Below.refl _ _).alloc (Nat.le_refl _) _) (hc j u hu)
 clear hc
 go_wp2_with (at_builtin;refine wpList_append_own _ rfl _ _ 25 rfl w.heap.size 64 i0 (.agg #[.int .i64 0,.slice none 0 0]) 2 32 Tryz.underlying25 hi hz0 hz1 hz2 rfl (by decide) (.slice (some ⟨w.heap.size,0,none⟩) 0 0) 0 [] rfl ?c0 ad n c ws rfl hl (hc1.out _) h1 ?c3 ?c4 ?c5 ?_;rotate_right;intro v' w2 hown' hgrow hnil)
 case c0=>exact⟨rfl,.inr ⟨w.heap.size,0,#[],rfl,Nat.le_refl _,ak _ rfl,Nat.le_refl _,by unfold maxLen;omega,rfl,rfl⟩⟩
 case c3=>unfold maxLen;omega
 case c4=>omega
 case c5=>simp
 go_wp2
 go_ret
 refine⟨⟨_,rfl,by simpa using hown',?_⟩,?_⟩
 ·intro h
  have:=hnil.1 h
  simp at this
 ·exact((Below.refl _ w).alloc (Nat.le_refl _) _).grown hgrow (by simp) (fun k e=>by cases e;exact Nat.le_refl _)
end Go.Proofs.YtmflnpdmlfmcpaaGreatDoor
namespace Go.Proofs.YtmflnpdmlfmcpaaGreatDoor
open Go.RowKit
variable {Nz : Nat}
def gO (b:List UInt8):List UInt8:=b++List.replicate (128-b.length) 0
theorem qP {b:List UInt8}(h:b.length<=128):(gO b).length=128:=by simp[gO];omega
def aj.write (d:aj)(i:Int)(b:List UInt8):aj × Int:=
 if d.canRead i then (if b.length<=128 then (if d.pend.length=4096 then (aj.zero,2) else ({ d with pend:=d.pend++[(i,gO b)] },0)) else (aj.zero,1)) else (aj.zero,40)
theorem sr {w:World}{a:Option Addr}{n:Nat}{ps:List (Int × List UInt8)}(h:Sl 2 (ie Nz) w a n ps) :
  ∃ws:List Value,ws.length=n*2/\(∀ad,a=some ad->∀j u,ws[j]? = some u->w.cell? (ad.add j)=some u)/\(∀u ∈ ws,u.oneCell'=true) /\
   (∀(i:Nat) x,ps[i]? = some x->∃u,ws[i*2]? = some (.int .i64 x.1)/\ws[i*2+1]? = some u/\aN Nz w [u] x.2):=by
 obtain⟨p,sa,sn,sc,hc,hr⟩:=vJ h
 have hl:=h.len
 refine⟨(List.range (n*2)).map fun q=>if q%2=0 then .int .i64 (p (q/2)) else .slice (sa (q/2)) (sn (q/2)) (sc (q/2)),by simp,?_,?_,?_⟩
 ·intro ad had j u hu
  rw[List.getElem?_map]at hu
  obtain⟨q,hq,rfl⟩:=Option.map_eq_some_iff.1 hu
  have hj:j<n*2:=by
   have:=(List.getElem?_eq_some_iff.1 hq).1
   simpa using this
  rw[List.getElem?_range hj]at hq
  obtain rfl:j=q:=Option.some.inj hq
  rcases hc with h0|⟨b,off,h0,_,hcell⟩
  ·omega
  ·rw[h0]at had
   obtain rfl:=Option.some.inj had
   rw[Addr.add_lit]
   obtain⟨c0,c1⟩:=hcell (j/2) om
   by_cases h2:j%2=0
   ·rw[if_pos h2,show off+j=off+j/2*2 by omega];exact c0
   ·rw[if_neg h2,show off+j=off+j/2*2+1 by omega];exact c1
 ·intro u hu
  obtain⟨q,_,rfl⟩:=List.mem_map.1 hu
  split<;>simp[Value.oneCell']
 ·intro i x hx
  have hi:i<n:=by rw[<-hl];exact(List.getElem?_eq_some_iff.1 hx).1
  obtain⟨h1,h2⟩:=hr i x hx
  refine⟨_,?_,?_,h2⟩
  ·rw[List.getElem?_map,List.getElem?_range om]
   simp[<-h1]
  ·rw[List.getElem?_map,List.getElem?_range om]
   have e1:(i*2+1)%2=1:=om
   have e2:(i*2+1)/2=i:=om
   simp[e1,e2]
end Go.Proofs.YtmflnpdmlfmcpaaGreatDoor
namespace Go.Proofs.YtmflnpdmlfmcpaaGreatDoor
open Go.RowKit
variable {Nz : Nat}
theorem su {w':World}{a1:Option Addr}{n1 c1:Nat}{d:aj}{i:Int}{bs:List UInt8}{base:Nat}{v u:Value}{n2:Nat}{ws:List Value}
  (h1:Sl 1 (aN Nz) w' a1 n1 d.secs) (f1:bO Nz w' a1 n1) (m1:n1<=maxLen) (k1:n1<=c1) (hl:d.pend.length=n2)
  (hown:w'.ownsRow base 64 2 v (n2+1) (ws++[.int .i64 i,u])) (hwl:ws.length=n2*2)
  (hr:∀(i:Nat) x,d.pend[i]? = some x->∃u,ws[i*2]? = some (.int .i64 x.1)/\ws[i*2+1]? = some u/\aN Nz w' [u] x.2) (hz:aN Nz w' [u] bs) :
  ∃a2 c2,v=.slice a2 (n2+1) c2/\bF Nz w' a1 n1 c1 a2 (n2+1) c2 { d with pend:=d.pend++[(i,bs)] }:=by
 rcases hown.2 with ⟨_,h0⟩|⟨g,cap,cur,rfl,_,hh,h2,h3,h4,h5⟩
 ·omega
 refine⟨_,cap,rfl,h1,⟨by simp[hl],.inr ⟨g,0,rfl,fun j x hx => ?_⟩⟩,m1,om,k1,h2,f1,bO.row hh (.inr (.inr rfl))⟩
 have hcell:∀q y,(ws++[.int .i64 i,u])[q]? = some y->w'.cell? ⟨g,q,none⟩=some y:=fun q u hu=>by
  rw[<-h5,List.getElem?_take]at hu
  split at hu
  ·simpa[World.cell?,hh] using hu
  ·cases hu
 by_cases hj:j<n2
 ·have hx':d.pend[j]? = some x:=by rwa [List.getElem?_append_left om]at hx
  obtain⟨u,q1,q2,ta,tn,tc,q3,q4,q5,q6⟩:=hr j x hx'
  simp only[List.cons.injEq,and_true]at q3
  subst q3
  refine⟨[.int .i64 x.1,.slice ta tn tc],rfl,⟨ta,tn,tc,rfl,q4,q5,q6⟩,fun k v hv => ?_⟩
  have r1:=hcell (j*2) _ (by rw[List.getElem?_append_left om];exact q1)
  have r2:=hcell (j*2+1) _ (by rw[List.getElem?_append_left om];exact q2)
  match k,hv with
  | 0,hv=>simp only[List.getElem?_cons_zero,Option.some.injEq]at hv;subst hv;simpa using r1
  | 1,hv=>simp only[List.getElem?_cons_succ,List.getElem?_cons_zero,Option.some.injEq]at hv;subst hv;simpa using r2
 ·have hjn:j=n2:=by
   have:=(List.getElem?_eq_some_iff.1 hx).1
   simp at this
   omega
  subst hjn
  have hx':x=(i,bs):=by
   rw[List.getElem?_append_right om,hl]at hx
   simpa using hx.symm
  subst hx'
  obtain⟨ta,tn,tc,q3,q4,q5,q6⟩:=hz
  simp only[List.cons.injEq,and_true]at q3
  subst q3
  refine⟨[.int .i64 i,.slice ta tn tc],rfl,⟨ta,tn,tc,rfl,q4,q5,q6⟩,fun k v hv => ?_⟩
  have r1:=hcell (j*2) (.int .i64 i) (by rw[List.getElem?_append_right om,hwl];simp)
  have r2:=hcell (j*2+1) (.slice ta tn tc) (by rw[List.getElem?_append_right om,hwl];simp)
  match k,hv with
  | 0,hv=>simp only[List.getElem?_cons_zero,Option.some.injEq]at hv;subst hv;simpa using r1
  | 1,hv=>simp only[List.getElem?_cons_succ,List.getElem?_cons_zero,Option.some.injEq]at hv;subst hv;simpa using r2
theorem vK {w w5:World}{a1:Option Addr}{n1 c1:Nat}{a2:Option Addr}{n2 c2:Nat}{d:aj}{i:Int}{bs:List UInt8}{base:Nat}{va:Option Addr}{vc:Nat}{u:Value}{ws:List Value}
  (hB:Below w.heap.size w w5) (H:bF Nz w a1 n1 c1 a2 n2 c2 d) (hown:w5.ownsRow base 64 2 (.slice va (n2+1) vc) (n2+1) (ws++[.int .i64 i,u]))
  {C1 C2:Array Value} {t:TypeId} (hx1:w5.heap[w.heap.size]? = some (.cells C1 t (0,0))) (hx2:w5.heap[w.heap.size+1]? = some (.cells C2 t (0,0))) (ht:t≠64)
  (hwl:ws.length=n2*2) (hwr:∀(i:Nat) x,d.pend[i]? = some x->∃u,ws[i*2]? = some (.int .i64 x.1)/\ws[i*2+1]? = some u/\aN Nz w [u] x.2)
  (hz:∀W:World,(∀b,b≠w.heap.size->b≠w.heap.size+1->W.heap[b]? = w5.heap[b]?)->aN Nz W [u] bs) :
  eJ Nz (((((w5.setCell ⟨w.heap.size,1,none⟩ (.slice va (n2+1) vc)).setCell ⟨w.heap.size+1,0,none⟩ (.slice a1 n1 c1)).setCell ⟨w.heap.size+1,1,none⟩ (.slice va (n2+1) vc)).setCell ⟨w.heap.size+1,2,none⟩ (.int .i64 d.left)).setCell ⟨w.heap.size+1,3,none⟩ (.bool d.stopped))
   (.agg #[.slice a1 n1 c1,.slice va (n2+1) vc,.int .i64 d.left,.bool d.stopped]) { d with pend:=d.pend++[(i,bs)] } /\
  Below w.heap.size w (((((w5.setCell ⟨w.heap.size,1,none⟩ (.slice va (n2+1) vc)).setCell ⟨w.heap.size+1,0,none⟩ (.slice a1 n1 c1)).setCell ⟨w.heap.size+1,1,none⟩ (.slice va (n2+1) vc)).setCell ⟨w.heap.size+1,2,none⟩ (.int .i64 d.left)).setCell ⟨w.heap.size+1,3,none⟩ (.bool d.stopped)):=by
 have ne1:=fun h=>de hown hx1 ht (Eq.symm h)
 have ne2:=fun h=>de hown hx2 ht (Eq.symm h)
 have hBW:=((((hB.setCell (p:=⟨w.heap.size,1,none⟩) (by simp) (.slice va (n2+1) vc)).setCell (p:=⟨w.heap.size+1,0,none⟩) (by simp) (.slice a1 n1 c1)).setCell (p:=⟨w.heap.size+1,1,none⟩) (by simp) (.slice va (n2+1) vc)).setCell (p:=⟨w.heap.size+1,2,none⟩) (by simp) (.int .i64 d.left)).setCell (p:=⟨w.heap.size+1,3,none⟩) (by simp) (.bool d.stopped)
 have hownW:=ownsRow_setCell_other (ownsRow_setCell_other (ownsRow_setCell_other (ownsRow_setCell_other (ownsRow_setCell_other (a:=⟨w.heap.size,1,none⟩) hown ne1 (.slice va (n2+1) vc)) (a:=⟨w.heap.size+1,0,none⟩) ne2 (.slice a1 n1 c1)) (a:=⟨w.heap.size+1,1,none⟩) ne2 (.slice va (n2+1) vc)) (a:=⟨w.heap.size+1,2,none⟩) ne2 (.int .i64 d.left)) (a:=⟨w.heap.size+1,3,none⟩) ne2 (.bool d.stopped)
 refine⟨?_,hBW⟩
 obtain⟨a2',c2',hv,hD⟩:=su (H.secs.below aN.keeps hBW) (H.f1.below hBW) H.m1 H.k1 H.pend.len hownW hwl (fun j x hx=>by
   obtain⟨u,q1,q2,q3⟩:=hwr j x hx
   exact⟨u,q1,q2,aN.keeps _ _ _ _ hBW q3⟩) (hz _ fun b h1 h2=>by
   rw[Below.heap_setCell _ _ _ _ h2,Below.heap_setCell _ _ _ _ h2,Below.heap_setCell _ _ _ _ h2,Below.heap_setCell _ _ _ _ h2,Below.heap_setCell _ _ _ _ h1])
 cases hv
 exact⟨_,_,_,_,_,_,rfl,hD⟩
theorem tY (n c:Nat)(w:World):Calls Tryz.prog 89 #[.slice none n c] w fun e w'=>e=.returned (.slice none 0 0)/\w=w':=by
 have he:∀w:World,(binOp .eql 25 (.slice none n c) (.slice none 0 0)).run Tryz.prog w=.ok (.bool true) w:=fun _=>rfl
 go_enter Tryz.func89,Tryz.ntmps89
 go_wp2
 go_ret
 exact⟨rfl,rfl⟩
theorem yd (a:Option Addr)(n c:Nat)(w:World)(h:n<=c)(hn:a=none->n=0/\c=0)(hs:∀ad,a=some ad->ad.spot=none) :
  Calls Tryz.prog 88 #[.slice a n c] w fun e w'=>e=.returned (.slice a n n)/\w=w':=by
 cases a with
 | none =>
  obtain⟨rfl,rfl⟩:=hn rfl
  exact yb w
 | some ad =>
  obtain⟨b,off,sp⟩:=ad
  obtain rfl:sp=none:=hs _ rfl
  exact x8 b off n c w h
theorem lu (a:Option Addr)(n c:Nat)(ps:List (Int × List UInt8))(w0 w:World)(hn:n<=4096)(h:Sl 2 (ie Nz) w0 a n ps)(hB0:Below w0.heap.size w0 w) :
  ∃ws:List Value,ws.length=n*2/\(∀u ∈ ws,u.oneCell'=true)/\(∀(i:Nat) x,ps[i]? = some x->∃u,ws[i*2]? = some (.int .i64 x.1)/\ws[i*2+1]? = some u/\aN Nz w0 [u] x.2) /\
  Calls Tryz.prog 89 #[.slice a n c] w fun e w'=>(∃a' c',e=.returned (.slice a' n c')/\n<=c'/\(a'=none->n=0/\c'=0)/\(∀ad,a'=some ad->ad.spot=none)/\(∀ad,a'=some ad->∀j u,ws[j]? = some u->w'.cell? (ad.add j)=some u))/\Below w.heap.size w w':=by
 obtain⟨ws,h1,h2,h3,h4⟩:=sr h
 refine⟨ws,h1,h3,h4,?_⟩
 cases a with
 | none =>
  obtain rfl:n=0:=by
   rcases h.2 with h|⟨_,_,h,_⟩
   ·exact h
   ·cases h
  refine(tY 0 c w).mono ?_
  rintro e w' ⟨rfl,rfl⟩
  exact⟨⟨none,0,rfl,Nat.le_refl _,fun _=>⟨rfl,rfl⟩,by simp,by simp⟩,Below.refl _ _⟩
 | some ad =>
  refine(tX ad n c ws w hn h1 (fun j u hu=>ag hB0 (h2 ad rfl j u hu)) h3).mono ?_
  rintro e w' ⟨⟨v,rfl,hown,hv⟩,hB⟩
  rcases hown.2 with ⟨h5,_⟩|⟨g,cap,cur,rfl,hg,hh,h6,h7,h8,h9⟩
  ·exact absurd h5 hv
  ·refine⟨⟨_,cap,rfl,h6,by simp,fun ad' e=>by cases e;rfl,fun ad' e j u hu => ?_⟩,hB⟩
   cases e
   rw[Addr.add_lit,Nat.zero_add]
   rw[<-h9,List.getElem?_take]at hu
   split at hu
   ·simpa[World.cell?,hh] using hu
   ·cases hu
end Go.Proofs.YtmflnpdmlfmcpaaGreatDoor
namespace Go.Proofs.YtmflnpdmlfmcpaaGreatDoor
open Go.RowKit
variable {Nz : Nat}
theorem vL (a1:Option Addr)(n1 c1:Nat)(a2:Option Addr)(n2 c2:Nat)(d:aj)(i:Int)(ba:Option Addr)(bn bc:Nat)(b:List UInt8)(w:World)(h:bF Nz w a1 n1 c1 a2 n2 c2 d)(hb:Sl 1 ai w ba bn b)(hbm:bn<=maxLen) :
  Calls Tryz.prog 49 #[.agg #[.slice a1 n1 c1,.slice a2 n2 c2,.int .i64 d.left,.bool d.stopped],.int .i64 i,.slice ba bn bc] w fun e w' =>
   (∃v,e=.returned (.tuple #[v,.int .i64 (d.write i b).2])/\eJ Nz w' v (d.write i b).1)/\Below w.heap.size w w':=by
 have H:=aa h
 have HBS:=aa hb
 have m1:=h.m1
 have m2:=h.m2
 clear h hb
 have HW:Hid (∀r,d.canRead i=r->d.write i b=if r then (if b.length<=128 then (if d.pend.length=4096 then (aj.zero,2) else ({ d with pend:=d.pend++[(i,gO b)] },0)) else (aj.zero,1)) else (aj.zero,40)):=fun r hr=>by subst hr;rfl
 go_enter Tryz.func49,Tryz.ntmps49
 go_wp2_with fail
 refine(kC _ _ _ _ _ _ _ _ (H.out.below ?hb)).mono ?_
 case hb=>go_grown
 rintro e w1 ⟨rfl,hB⟩
 obtain⟨bl,b0,b1,b2,b3,⟨_,i1,_,_⟩,_,y1,_⟩:=aF hB (aB _ (ak _ rfl))
 have HX1:Hid (w1.heap[w.heap.size]? = some (.cells #[.slice a1 n1 c1,.slice a2 n2 c2,.int .i64 d.left,.bool d.stopped] 27 (0,0))):=(hB.block _ (by simp;omega)).trans (aB _ (ak _ rfl))
 have hrx:w1.heap[w.heap.size+1]? = some (.cells zK 27 (0,0)):=(hB.block _ (by simp)).trans (ak _ (by simp))
 have hB1:Below w.heap.size w w1:=Below.trans (by go_grown) (hB.mono (by simp;omega))
 clear hB
 cases hr:d.runs
 ·have hrd:Hid (d.write i b=(aj.zero,40)):=by
   exact HW.out false (by simp[aj.canRead,hr])
  obtain⟨rl,r0,r1,r2,r3,⟨j0,j1,j2,j3⟩,z0,z1,z2,z3⟩:=aF (Below.refl _ w1) hrx
  clear hr hrx
  go_wp2
  refine bodyPost_ret (by simp[results,Tryz.results49,go_sem,r0,r1,r2,r3];try rfl) rfl ?_
  exact⟨⟨_,by rw[hrd.out],by rw[hrd.out];exact ge _⟩,by go_grown⟩
 ·have hok:d.okB=true:=by
   unfold aj.runs at hr
   cases h:d.okB
   ·rw[h]at hr;simp at hr
   ·rfl
  obtain⟨_,g1,g2⟩:=ls hok
  have L1:=H.out.secs.len
  have L2:=H.out.pend.len
  rw[L1]at g1
  rw[L2]at g2
  have hcan:d.canRead i=(decide (0<=i) && decide (i<(n1:Int))):=by
   simp[aj.canRead,hr,L1]
  have HCAN:=aa hcan
  clear hr hok hcan L1 L2
  go_wp2_with fail
  refine(Ad _ _ _ _ _ _ _ _ _ _ m1).mono ?_
  rintro e w2 ⟨rfl,hB⟩
  have hrx2:w2.heap[w.heap.size+1]? = some (.cells zK 27 (0,0)):=(hB.block _ (lt_of_block hrx)).trans hrx
  obtain⟨rl,r0,r1,r2,r3,⟨j0,j1,j2,j3⟩,z0,z1,z2,z3⟩:=aF (Below.refl _ w2) hrx2
  have hB2:=hB1.trans (hB.mono hB1.size)
  by_cases hi:0<=i/\i<n1
  ·have hhas:(decide (0<=i) && decide (i<(n1:Int)))=true:=by
    rw[<-Bool.decide_and]
    exact decide_eq_true hi
   have hrd:=HW.out true (HCAN.out.trans hhas)
   rw[if_pos rfl]at hrd
   rw[hhas]
   have hbl:=HBS.out.len
   unfold maxLen at hbm m1 m2
   by_cases h128:bn<=128
   ·rw[if_pos om]at hrd
    have L2:=H.out.pend.len
    by_cases h4096:n2=4096
    ·rw[if_pos om]at hrd
     have HRD:=aa hrd
     have b1:=ag hB b1
     clear hhas hi hrx hrx2 hB hrd HW HCAN hbl L2
     go_wp2
     refine bodyPost_ret (by simp[results,Tryz.results49,go_sem,r0,r1,r2,r3];try rfl) rfl ?_
     exact⟨⟨_,by rw[HRD.out],by rw[HRD.out];exact ge _⟩,by go_grown⟩
    ·rw[if_neg om]at hrd
     have HRD:=aa hrd
     have b0:=ag hB b0
     have b1:=ag hB b1
     have b2:=ag hB b2
     have b3:=ag hB b3
     have hmk:=run_make_row' (P:=Tryz.prog) 40 5 (.int .u8 0) 1 Tryz.underlying40 jv rfl .i64 .i64 128 om om
     rw[gB,<-lf,show ((128:Nat):Int)=128 from rfl]at hmk
     obtain⟨Z,hZ⟩:=zg (af iJ)
     have HZ:=aa hZ
     rw[<-hZ]at hmk
     obtain⟨C,hC⟩:=zg (af b)
     have HCc:=aa hC
     have q1:C.length=Nat.min bn 128:=by rw[hC];show _=min bn 128;rw[Nat.min_eq_left h128];simpa[af] using hbl
     have q2:Hid (0<C.length->∃ad,ba=some ad/\∀j v,C[j]? = some v->(w2.alloc (.cells Z.toArray 5)).cell? (ad.add j)=some v):=by
      intro hpos
      rcases HBS.out.bytes with h0|⟨xb,xo,h0,hc⟩
      ·rw[q1,h0]at hpos;exact absurd hpos (by decide)
      ·refine⟨_,h0,fun j v hv => ?_⟩
       rw[hC]at hv
       simp only[af,List.getElem?_map]at hv
       obtain⟨y,hy,rfl⟩:=Option.map_eq_some_iff.1 hv
       rw[Addr.add_lit]
       exact ag ((Below.refl _ w2).alloc (Nat.le_refl _) _) (ag hB2 (hc j y hy))
     have q3:∀v ∈ C,v.oneCell'=true:=by
      rw[hC]
      intro v hv
      obtain⟨x,_,rfl⟩:=List.mem_map.1 hv
      rfl
     have q4:C.length<=128:=by rw[q1];exact Nat.min_le_right _ _
     have hZl:Z.length=128:=by rw[hZ];simp[af,iJ]
     have hsp:Hid (splice Z 0 C=af (gO b)):=by
      show _=_
      rw[hZ,hC]
      unfold splice af gO iJ
      rw[List.take_zero,List.nil_append,List.map_append,<-List.map_drop,List.drop_replicate,List.length_map,Nat.zero_add]
     have hx1:w2.heap[w.heap.size]? = some (.cells #[.slice a1 n1 c1,.slice a2 n2 c2,.int .i64 d.left,.bool d.stopped] 27 (0,0)):=(hB.block _ bl).trans HX1.out
     have HX1:=aa hx1
     have HX2:=aa hrx2
     obtain⟨i0,hi0,hz0,hz1,hz2⟩:=info_parts Dw
     clear hZ hC hhas hi hrx hB hrd HW HCAN hbl L2 hx1 hrx2
     go_wp2_with (refine wpList_copy_splice rfl (.tmp 32) (.tmp 33) 40 40 rfl 5 Tryz.underlying40 qB (some ⟨w2.heap.size,0,none⟩) ba 128 128 bn bc ?hd ?hs w2.heap.size 0 Z 5 (ak _ rfl) C q1 (fun h=>⟨rfl,q2.out h⟩) om q3 w2.heap.size w2 ((Below.refl _ w2).alloc (Nat.le_refl _) _) (Nat.le_refl _) ?_;(case hd=>rfl);(case hs=>rfl);intro w3 HG3 hB3;have b0:=ag hB3 b0;have b1:=ag hB3 b1;have b2:=ag hB3 b2;have b3:=ag hB3 b3)
     have hs2:=hB2.size
     have hb12:=lt_of_block HX2.out
     have hz3:ac w3 w2.heap.size 5 (af (gO b)):=by rw[<-hsp.out];exact HG3.out
     have HZ3:=aa hz3
     have hB3':=hB2.trans (hB3.mono hs2)
     clear hz3 HG3 hmk q2 q3 q1 hZl q4
     obtain⟨ws,hwl,hw1,hwr,hcl⟩:=lu a2 n2 c2 d.pend w w3 g2 H.out.pend hB3'
     have HWL:=aa hwl
     have HWR:=aa hwr
     clear hwl hwr
     refine hcl.mono ?_
     clear hcl
     rintro e w4 ⟨⟨a',c',rfl,k1,k2,k3,k4⟩,hB4⟩
     have b0:=ag hB4 b0
     have b1:=ag hB4 b1
     have b2:=ag hB4 b2
     have b3:=ag hB4 b3
     have hs3:=hB3.size
     have hs4:=hB4.size
     have K4:=aa k4
     clear k4
     go_wp2_with fail
     refine(yd a' n2 c' w4 k1 k2 k3).mono ?_
     rintro e w' ⟨rfl,rfl⟩
     have hz4:ac w4 w2.heap.size 5 (af (gO b)):=HZ3.out.below hB4 HZ3.out.lt
     have hX1:w4.heap[w.heap.size]? = some (.cells #[.slice a1 n1 c1,.slice a2 n2 c2,.int .i64 d.left,.bool d.stopped] 27 (0,0)):=(hB4.block _ om).trans ((hB3.block _ om).trans HX1.out)
     have hX2:w4.heap[w.heap.size+1]? = some (.cells zK 27 (0,0)):=(hB4.block _ om).trans ((hB3.block _ om).trans HX2.out)
     have HZ4:=aa hz4
     have HX1':=aa hX1
     have HX2':=aa hX2
     have hB4':=hB3'.trans (hB4.mono om)
     have K2:=aa k2
     clear hz4 hX1 hX2 k2 k3
     go_wp2_with (at_builtin;refine wpList_append_grows _ rfl _ _ 25 rfl 64 i0 (.agg #[.int .i64 0,.slice none 0 0]) 2 32 Tryz.underlying25 hi0 hz0 hz1 hz2 rfl (by decide) a' n2 n2 ws rfl ?k0 HWL.out ?k1 ⟨w4.heap.size,0,none⟩ 1 1 [.int .i64 i,.slice (some ⟨w2.heap.size,0,none⟩) 128 128] rfl rfl ?k2 ?k3 ?k4 ?k5 ?k6 ?_;rotate_right;intro v5 w5 hown hgrow;obtain⟨va,vc,rfl⟩:=ft hown;obtain⟨_,b0,b1,b2,b3,⟨_,i1,_,_⟩,_,y1,_⟩:=aF (Below.refl _ w5) (bx (aB _ HX1'.out) hgrow (by simp));obtain⟨_,r0,r1,r2,r3,⟨j0,j1,j2,j3⟩,z0,z1,z2,z3⟩:=aF (Below.refl _ w5) (bx (aB _ HX2'.out) hgrow (by simp));have HOWN:=aa hown;have HGROW:=aa hgrow;clear hown hgrow)
     case k0=>exact fun h=>⟨(K2.out h).1,(K2.out h).1⟩
     case k1=>exact fun ad had j u hu=>ag ((Below.refl _ w4).alloc (Nat.le_refl _) _) (K4.out ad had j u hu)
     case k2 =>
      intro j u hu
      rw[Addr.add_lit,Nat.zero_add,dz _ _ rfl]
      simpa using hu
     case k3=>simp[Value.oneCell']
     case k4=>omega
     case k5=>unfold maxLen;omega
     case k6=>omega
     refine bodyPost_ret (by simp[results,Tryz.results49,go_sem,r0,r1,r2,r3];try rfl) rfl ?_
     have hx1:=bx (aB (.cells #[.int .i64 i,.slice (some ⟨w2.heap.size,0,none⟩) 128 128] 64) HX1'.out) HGROW.out (by simp)
     have hx2:=bx (aB (.cells #[.int .i64 i,.slice (some ⟨w2.heap.size,0,none⟩) 128 128] 64) HX2'.out) HGROW.out (by simp)
     have hz5:ac w5 w2.heap.size 5 (af (gO b)):=bx (aB (.cells #[.int .i64 i,.slice (some ⟨w2.heap.size,0,none⟩) 128 128] 64) HZ4.out) HGROW.out (by simp)
     have hB5:Below w.heap.size w w5:=(hB4'.alloc om (.cells #[.int .i64 i,.slice (some ⟨w2.heap.size,0,none⟩) 128 128] 64)).grown HGROW.out (by simp;omega) (fun k e=>by cases e)
     have hbl:=HBS.out.len
     obtain⟨g1,g2⟩:=vK hB5 H.out HOWN.out hx1 hx2 (by decide) HWL.out HWR.out (bs:=gO b) (fun W hW=>qL _ 128 128 (qP om) (by unfold maxLen;omega) (Nat.le_refl _) ((hW _ om om).trans hz5))
     exact⟨⟨_,by rw[HRD.out],by rw[HRD.out];exact g1⟩,g2⟩
   ·rw[if_neg om]at hrd
    have HRD:=aa hrd
    clear hhas hi hrx hrx2 hB hrd HW HCAN hbl
    go_wp2
    refine bodyPost_ret (by simp[results,Tryz.results49,go_sem,r0,r1,r2,r3];try rfl) rfl ?_
    exact⟨⟨_,by rw[HRD.out],by rw[HRD.out];exact ge _⟩,by go_grown⟩
  ·have hhas:(decide (0<=i) && decide (i<(n1:Int)))=false:=by
    rw[<-Bool.decide_and]
    exact decide_eq_false hi
   have hrd:Hid (d.write i b=(aj.zero,40)):=by
    exact HW.out false (HCAN.out.trans hhas)
   rw[hhas]
   clear hhas hi hrx hrx2 hB
   go_wp2
   refine bodyPost_ret (by simp[results,Tryz.results49,go_sem,r0,r1,r2,r3];try rfl) rfl ?_
   exact⟨⟨_,by rw[hrd.out],by rw[hrd.out];exact ge _⟩,by go_grown⟩
end Go.Proofs.YtmflnpdmlfmcpaaGreatDoor
namespace Go.Proofs.YtmflnpdmlfmcpaaGreatDoor
open Go.RowKit
variable {Nz : Nat}
theorem ki {P:Program}{w:World}(base:Nat)(t ty e:TypeId)(i:TypeInfo)(size:Nat)(ht:P.underlying t=some (.slice e))(hi:P.info? e=some i)
  (v:Value) (n:Nat) (xs:List Value) (hown:w.ownsRow base e size v n xs) (c:Nat) :
  (Builtin.append_ #[t,t] ty #[v,.slice none 0 c]).run P w=.ok v w:=by
 rcases hown.2 with ⟨rfl,rfl⟩|⟨g,cap,cur,rfl,_,_,hnc,_⟩
 ·simp[Builtin.append_,run_underlying ht,sizeOf,typeInfo,hi,Builtin.lenOf,Builtin.firstCells]
 ·simp[Builtin.append_,run_underlying ht,sizeOf,typeInfo,hi,Builtin.lenOf,Builtin.firstCells,hnc,storeCells]
theorem lv (w:World)(row:Option Nat):w.grownBy w row:=⟨rfl,rfl,rfl,Nat.le_refl _,fun _ _ _=>rfl⟩
theorem mz {P:Program}{w:World}(t ty:TypeId)(base:Nat)(e:TypeId)(i:TypeInfo)(z:Value)(size bytes:Nat)(ht:P.underlying t=some (.slice e))(hi:P.info? e=some i)(hz:i.zero=some z)
  (hsize:i.size=size) (hby:i.bytes=bytes) (hzs:z.cells.size=size) (hsz:0<size)
  (v:Value) (n:Nat) (xs:List Value) (hown:w.ownsRow base e size v n xs)
  (ao:Option Addr) (m c:Nat) (news:List Value) (hl:news.length=m*size) (hnone:ao=none->m=0) (hnews:∀ad,ao=some ad->∀j u,news[j]? = some u->w.cell? (ad.add j)=some u) (h1:∀u ∈ news,u.oneCell'=true)
  (h63:n+m<=maxLen) (hbytes:(n+m)*bytes<=140737488355328) (hbase:base<=w.heap.size) :
  ∃v' w',(Builtin.append_ #[t,t] ty #[v,.slice ao m c]).run P w=.ok v' w'/\w'.ownsRow base e size v' (n+m) (xs++news)/\w.grownBy w' v.ownBlock:=by
 cases ao with
 | none =>
  obtain rfl:=hnone rfl
  obtain rfl:news=[]:=List.eq_nil_of_length_eq_zero (by simpa using hl)
  exact⟨v,w,ki base t ty e i size ht hi v n xs hown c,by simpa using hown,lv _ _⟩
 | some ad =>
  obtain⟨v',w',h2,h3,h4,_⟩:=run_append_own (P:=P) w base t ty e i z size bytes ht hi hz hsize hby hzs hsz v n xs hown ad m c news hl (hnews ad rfl) h1 h63 hbytes hbase
  exact⟨v',w',h2,h3,h4⟩
theorem dA {P:Program}{w:World}{o:Oper}{a:Act}{K:Act->World->Prop}{Q:Exit->Act->World->Prop}(s x:Operand)(t:TypeId)
  (ho:o.op=.call { callee:=.builtin .append,args:=#[s,x],argTypes:=#[t,t] })
  (base:Nat) (e:TypeId) (i:TypeInfo) (z:Value) (size bytes:Nat) (ht:P.underlying t=some (.slice e)) (hi:P.info? e=some i) (hz:i.zero=some z)
  (hsize:i.size=size) (hby:i.bytes=bytes) (hzs:z.cells.size=size) (hsz:0<size)
  (v:Value) (n:Nat) (xs:List Value) (hs:a.eval s=v) (hown:w.ownsRow base e size v n xs)
  (ao:Option Addr) (m c:Nat) (news:List Value) (hx:a.eval x=.slice ao m c) (hl:news.length=m*size) (hnone:ao=none->m=0) (hnews:∀ad,ao=some ad->∀j u,news[j]? = some u->w.cell? (ad.add j)=some u) (h1:∀u ∈ news,u.oneCell'=true)
  (h63:n+m<=maxLen) (hbytes:(n+m)*bytes<=140737488355328) (hbase:base<=w.heap.size)
  (h:∀va vc w',w'.ownsRow base e size (.slice va (n+m) vc) (n+m) (xs++news)->w.grownBy w' v.ownBlock->K (a.put o.dst (.slice va (n+m) vc)) w'):o.wp P a w K Q:=by
 obtain⟨v',w',hr,h2,h3⟩:=mz (P:=P) (w:=w) t o.type base e i z size bytes ht hi hz hsize hby hzs hsz v n xs hown ao m c news hl hnone hnews h1 h63 hbytes hbase
 obtain⟨va,vc,rfl⟩:=ft h2
 unfold Oper.wp execOp
 simp only[ho,resolve,invoke,builtin,Sem.run_bind,Sem.run_pure,Result.andThen_ok,List.map_toArray,List.map_cons,List.map_nil,hs,hx,hr]
 exact h va vc w' h2 h3
theorem aD {P:Program}{w:World}{ops:Array Oper}{rest:List Oper}{o:Oper}{a:Act}{Q:Exit->Act->World->Prop}(hgd:o.guard=none)(s x:Operand)(t:TypeId)
  (ho:o.op=.call { callee:=.builtin .append,args:=#[s,x],argTypes:=#[t,t] })
  (base:Nat) (e:TypeId) (i:TypeInfo) (z:Value) (size bytes:Nat) (ht:P.underlying t=some (.slice e)) (hi:P.info? e=some i) (hz:i.zero=some z)
  (hsize:i.size=size) (hby:i.bytes=bytes) (hzs:z.cells.size=size) (hsz:0<size)
  (v:Value) (n:Nat) (xs:List Value) (hs:a.eval s=v) (hown:w.ownsRow base e size v n xs)
  (ao:Option Addr) (m c:Nat) (news:List Value) (hx:a.eval x=.slice ao m c) (hl:news.length=m*size) (hnone:ao=none->m=0) (hnews:∀ad,ao=some ad->∀j u,news[j]? = some u->w.cell? (ad.add j)=some u) (h1:∀u ∈ news,u.oneCell'=true)
  (h63:n+m<=maxLen) (hbytes:(n+m)*bytes<=140737488355328) (hbase:base<=w.heap.size)
  (h:∀va vc w',w'.ownsRow base e size (.slice va (n+m) vc) (n+m) (xs++news)->w.grownBy w' v.ownBlock->wpList P ops Q rest (a.put o.dst (.slice va (n+m) vc)) w'):wpList P ops Q (o::rest) a w:=
 wpList_plain hgd fun _ hK=>dA s x t ho base e i z size bytes ht hi hz hsize hby hzs hsz v n xs hs hown ao m c news hx hl hnone hnews h1 h63 hbytes hbase fun va vc w' h2 h3=>hK _ _ (h va vc w' h2 h3)
theorem iM {P:Program}{w:World}{ops:Array Oper}{o:Oper}{a:Act}{K:Act->World->Prop}{Q:Exit->Act->World->Prop}{E:Prop}(hgd:o.guard=none)(s x:Operand)(t:TypeId)
  (ho:o.op=.call { callee:=.builtin .append,args:=#[s,x],argTypes:=#[t,t] })
  (base:Nat) (e:TypeId) (i:TypeInfo) (z:Value) (size bytes:Nat) (ht:P.underlying t=some (.slice e)) (hi:P.info? e=some i) (hz:i.zero=some z)
  (hsize:i.size=size) (hby:i.bytes=bytes) (hzs:z.cells.size=size) (hsz:0<size)
  (v:Value) (n:Nat) (xs:List Value) (hs:a.eval s=v) (hown:w.ownsRow base e size v n xs)
  (ao:Option Addr) (m c:Nat) (news:List Value) (hx:a.eval x=.slice ao m c) (hl:news.length=m*size) (hnone:ao=none->m=0) (hnews:∀ad,ao=some ad->∀j u,news[j]? = some u->w.cell? (ad.add j)=some u) (h1:∀u ∈ news,u.oneCell'=true)
  (h63:n+m<=maxLen) (hbytes:(n+m)*bytes<=140737488355328) (hbase:base<=w.heap.size)
  (h:∀va vc w',w'.ownsRow base e size (.slice va (n+m) vc) (n+m) (xs++news)->w.grownBy w' v.ownBlock->K (a.put o.dst (.slice va (n+m) vc)) w') :
  if Region.wanted o (yielded ops a.tmps)=true then Oper.wp P o a w K Q else E:=by
 have hw:Region.wanted o (yielded ops a.tmps)=true:=by simp[Region.wanted,hgd]
 rw[if_pos hw]
 exact dA s x t ho base e i z size bytes ht hi hz hsize hby hzs hsz v n xs hs hown ao m c news hx hl hnone hnews h1 h63 hbytes hbase h
theorem bV {w:World}{a:Option Addr}{n:Nat}{bs:List UInt8}(h:Sl 1 ai w a n bs) :
  (af bs).length=n*1/\(a=none->n=0)/\(∀ad,a=some ad->∀j u,(af bs)[j]? = some u->w.cell? (ad.add j)=some u)/\(∀u ∈ af bs,u.oneCell'=true):=by
 refine⟨by simp[af,h.len],?_,?_,?_⟩
 ·rintro rfl
  rcases h.2 with h|⟨_,_,h,_⟩
  ·exact h
  ·cases h
 ·rintro ad rfl j u hu
  simp only[af,List.getElem?_map]at hu
  obtain⟨y,hy,rfl⟩:=Option.map_eq_some_iff.1 hu
  rcases h.bytes with h0|⟨xb,xo,h0,hc⟩
  ·have h1:=(List.getElem?_eq_some_iff.1 hy).1
   have h2:=h.len
   omega
  ·cases h0
   rw[Addr.add_lit]
   exact hc j y hy
 ·intro u hu
  obtain⟨x,_,rfl⟩:=List.mem_map.1 hu
  rfl
theorem i4 {w:World}{base n c:Nat}{a:Option Addr}{bs:List UInt8}(h:w.ownsRow base 5 1 (.slice a n c) n (af bs)):aN Nz w [.slice a n c] bs:=by
 have hl:bs.length=n:=by have:=h.1;simpa[af] using this
 obtain⟨h1,h2,h3⟩:=d8 (R:=ai) h bs hl (fun i x hx=>⟨_,by simp only[af,List.getElem?_map,hx];rfl,rfl⟩)
 exact⟨a,n,c,rfl,h1,h2,h3,bO.own h (.inl rfl)⟩
theorem cZ {w W:World}{base:Nat}{e:TypeId}{size n:Nat}{v:Value}{xs:List Value}(h:w.ownsRow base e size v n xs)(hW:∀g,v.ownBlock=some g->W.heap[g]? = w.heap[g]?):W.ownsRow base e size v n xs:=by
 obtain⟨h1,h2⟩:=h
 refine⟨h1,?_⟩
 rcases h2 with h2|⟨g,cap,cur,rfl,h3,h4,h5⟩
 ·exact .inl h2
 ·exact .inr ⟨g,cap,cur,rfl,h3,(hW g rfl).trans h4,h5⟩
theorem vM {w:World}{b1 b2:Nat}{e1 e2:TypeId}{s1 s2 n1 n2:Nat}{v1 v2:Value}{x1 x2:List Value}(h1:w.ownsRow b1 e1 s1 v1 n1 x1)(h2:w.ownsRow b2 e2 s2 v2 n2 x2)(he:e1≠e2):v1.ownBlock=none\/v1.ownBlock≠v2.ownBlock:=by
 rcases h1.2 with ⟨rfl,_⟩|⟨g,cap,cur,rfl,_,hh,_⟩
 ·exact .inl rfl
 ·exact .inr (de h2 hh he)
end Go.Proofs.YtmflnpdmlfmcpaaGreatDoor
namespace Go.Proofs.YtmflnpdmlfmcpaaGreatDoor
open Go.RowKit
variable {Nz : Nat}
theorem kI (X Y Z:List UInt8)(off k n:Nat)(hx:X.length=off)(hy:Y.length=k):cY (X++(Y++Z)) off k n k=X++(bD n k++Z):=by
 unfold cY
 rw[Nat.sub_self,Nat.add_zero,List.take_left' hx,List.append_assoc,<-List.append_assoc X Y Z,List.drop_left' (by simp;omega)]
def nk (g:Nat):List UInt8:=bD g 4++List.replicate 124 0
def ii (g k:Nat):List UInt8:=bD g 4++(List.replicate 4 0++(bD k 2++List.replicate 118 0))
def iG (g k kind n:Nat):List UInt8:=bD g 4++(List.replicate 4 0++(bD k 2++(UInt8.ofNat kind::UInt8.ofNat n::List.replicate 116 0)))
def jV (g k kind:Nat)(l:List UInt8):List UInt8:=bD g 4++(List.replicate 4 0++(bD k 2++(UInt8.ofNat kind::UInt8.ofNat l.length::(l++List.replicate (116-l.length) 0))))
def jW (g k kind:Nat)(l:List UInt8):List UInt8:=bD g 4++(List.replicate 4 0++(eh k kind l++bD g 4))
theorem Ah (g:Nat):cY (List.replicate 128 0) 0 4 g 4=nk g:=by
 have:=kI [] (List.replicate 4 0) (List.replicate 124 0) 0 4 g rfl (by simp)
 simp only[List.nil_append,List.replicate_append_replicate]at this
 exact this
theorem sA (g:Nat):(nk g).length=128:=by simp[nk,bo]
theorem mG (g k:Nat):(ii g k).length=128:=by simp[ii,bo]
theorem sB (g k kind n:Nat):(iG g k kind n).length=128:=by simp[iG,bo]
theorem sC (g k kind:Nat)(l:List UInt8)(h:l.length<=112):(jV g k kind l).length=128:=by simp[jV,bo];omega
theorem mH (g k kind:Nat)(l:List UInt8)(h:l.length<=112):(jW g k kind l).length=128:=by simp[jW,bo,fP k kind h]
theorem Aj (g k:Nat):cY (nk g) 8 2 k 2=ii g k:=by
 have:=kI (bD g 4++List.replicate 4 0) (List.replicate 2 0) (List.replicate 118 0) 8 2 k (by simp[bo]) (by simp)
 rw[show nk g=bD g 4++List.replicate 4 0++(List.replicate 2 0++List.replicate 118 0) by simp[nk,List.append_assoc],this]
 simp[ii]
theorem Ak (g k kind n:Nat):((ii g k).set 10 (UInt8.ofNat kind)).set 11 (UInt8.ofNat n)=iG g k kind n:=by
 have e:ii g k=(bD g 4++(List.replicate 4 0++bD k 2))++(0::0::List.replicate 116 0):=by simp[ii,List.replicate_succ]
 have hl:(bD g 4++(List.replicate 4 (0:UInt8)++bD k 2)).length=10:=by simp[bo]
 rw[e,List.set_append_right _ _ om,hl,List.set_append_right _ _ om,hl]
 simp[iG]
theorem Al (g k kind:Nat)(l:List UInt8)(_h:l.length<=112):(iG g k kind l.length).take 12++l++(iG g k kind l.length).drop (12+l.length)=jV g k kind l:=by
 have e:iG g k kind l.length=(bD g 4++(List.replicate 4 0++(bD k 2++[UInt8.ofNat kind,UInt8.ofNat l.length])))++List.replicate 116 0:=by simp[iG]
 have hl:(bD g 4++(List.replicate 4 (0:UInt8)++(bD k 2++[UInt8.ofNat kind,UInt8.ofNat l.length]))).length=12:=by simp[bo]
 rw[e,List.take_left' hl,<-List.drop_drop,List.drop_left' hl,List.drop_replicate]
 simp[jV]
theorem Am (g k kind:Nat)(l:List UInt8)(h:l.length<=112):cY (jV g k kind l) 124 4 g 4=jW g k kind l:=by
 have e:jV g k kind l=(bD g 4++(List.replicate 4 0++eh k kind l))++(List.replicate 4 0++[]):=by
  simp only[jV,eh,List.append_assoc,List.cons_append,List.append_nil]
  rw[List.replicate_append_replicate,show 112-l.length+4=116-l.length by omega]
 rw[e,kI _ _ _ 124 4 g (by simp[bo,fP k kind h]) (by simp)]
 simp[jW]
theorem An (g k kind:Nat)(l:List UInt8)(_h:l.length<=112):cY (jW g k kind l) 4 4 (ne (eh k kind l)) 4=eK g k kind l:=
 kI (bD g 4) (List.replicate 4 0) _ 4 4 _ (bo g 4) (by simp)
theorem yh (g k kind:Nat)(l:List UInt8)(h:l.length<=112):((jW g k kind l).drop 8).take 116=eh k kind l:=by
 rw[jW,<-List.append_assoc,List.drop_left' (by simp[bo]),List.take_left' (fP k kind h)]
theorem Ao {w:World}{g:Nat}{t:TypeId}{bs:List UInt8}(off n:Nat)(hl:off+n<=bs.length)(h:ac w g t (af bs)):Sl 1 ai w (some ⟨g,off,none⟩) n ((bs.drop off).take n):=by
 refine⟨by simp;omega,.inr ⟨g,off,rfl,fun i x hx=>⟨[.int .u8 x.toNat],rfl,rfl,fun j v hv => ?_⟩⟩⟩
 match j,hv with
 | 0,hv =>
  simp only[List.getElem?_cons_zero,Option.some.injEq]at hv
  subst hv
  rw[ac.cell h]
  rw[List.getElem?_take]at hx
  split at hx
  ·rw[List.getElem?_drop]at hx
   simp[af,hx]
  ·cases hx
theorem gP (g k kind:Nat)(a:Option Addr)(n c:Nat)(l:List UInt8)(w:World)(hg:g<18446744073709551616)(hk:k<65536)(hkd:kind<256)(hn:n<=112)(h:Sl 1 ai w a n l) :
  Calls Tryz.prog 50 #[.int .u64 g,.int .i64 k,.int .u8 kind,.slice a n c] w fun e w'=>e=.returned (.slice (some ⟨w.heap.size,0,none⟩) 128 128)/\ac w' w.heap.size 115 (af (eK g k kind l))/\Below w.heap.size w w':=by
 have HZ:Hid (Tryz.zeroCells115=(af (List.replicate 128 0)).toArray):=by show _=_;kernel_rfl
 have HL:=aa h.len
 have HS:=aa h
 clear h
 have wk:IntKind.u64.wrap (k:Int)=(k:Int):=by rw[IntKind.wrap_u64];omega
 have wn:IntKind.u8.wrap (n:Int)=(n:Int):=by rw[IntKind.wrap_u8];omega
 go_enter Tryz.func50,Tryz.ntmps50
 go_wp2_with fail
 refine(ig w.heap.size 0 4 _ g 115 (List.replicate 128 0) _ hg om om (by simp) ?r0).mono ?_
 case r0=>show _=_;rw[<-HZ.out];exact ak _ rfl
 rintro e w1 ⟨⟨v1,rfl⟩,hr1,hB1,hz1,ho1⟩
 rw[Ah]at hr1
 have hB1:Below w.heap.size w w1:=((Below.refl _ w).alloc (Nat.le_refl _) _).trans hB1
 have HR1:=aa hr1
 clear hr1 ho1 hz1 HZ
 go_wp2_with fail
 refine(ig w.heap.size 8 2 _ k 115 (nk g) _ om om om (by rw[sA];omega) HR1.out).mono ?_
 rintro e w2 ⟨⟨v2,rfl⟩,hr2,hB2,hz2,ho2⟩
 rw[Aj]at hr2
 have hB2:Below w.heap.size w w2:=hB1.trans hB2
 have hc10:∃x:UInt8,(ii g k)[10]? = some x:=av (mG g k) om
 have hc11:∃x:UInt8,(ii g k)[11]? = some x:=av (mG g k) om
 obtain⟨x10,hx10⟩:=hc10
 obtain⟨x11,hx11⟩:=hc11
 have c10:w2.cell? ⟨w.heap.size,10,none⟩=some (.int .u8 x10.toNat):=(ac.cell hr2 _).trans (by simp only[af,List.getElem?_map,hx10];rfl)
 have c11:w2.cell? ⟨w.heap.size,11,none⟩=some (.int .u8 x11.toNat):=(ac.cell hr2 _).trans (by simp only[af,List.getElem?_map,hx11];rfl)
 have f10:w2.frozen? ⟨w.heap.size,10,none⟩=false:=frozen_of_row _ _ _ _ _ hr2
 have f11:w2.frozen? ⟨w.heap.size,11,none⟩=false:=frozen_of_row _ _ _ _ _ hr2
 have hr3:ac ((w2.setCell ⟨w.heap.size,10,none⟩ (.int .u8 kind)).setCell ⟨w.heap.size,11,none⟩ (.int .u8 n)) w.heap.size 115 (af (iG g k kind n)):=by
  have h1:=ax (ax hr2 10 (.int .u8 kind)) 11 (.int .u8 n)
  unfold ac
  rw[h1,<-Ak]
  have h2:(UInt8.ofNat kind).toNat=kind:=by rw[UInt8.toNat_ofNat'];omega
  have h3:(UInt8.ofNat n).toNat=n:=by rw[UInt8.toNat_ofNat'];omega
  simp[af,List.map_set,h2,h3]
 have hB3:Below w.heap.size w ((w2.setCell ⟨w.heap.size,10,none⟩ (.int .u8 kind)).setCell ⟨w.heap.size,11,none⟩ (.int .u8 n)):=(hB2.setCell (p:=⟨w.heap.size,10,none⟩) (Nat.le_refl _) _).setCell (p:=⟨w.heap.size,11,none⟩) (Nat.le_refl _) _
 have HR3:=aa hr3
 clear hr2 ho2 hz2 HR1 hx10 hx11 hr3
 have hl:=HL.out
 have q1:(af l).length=Nat.min n 116:=by show _=min n 116;rw[Nat.min_eq_left om];simpa[af] using hl
 have q2:Hid (∀W,Below w.heap.size w W->0<(af l).length->∃ad,a=some ad/\∀j v,(af l)[j]? = some v->W.cell? (ad.add j)=some v):=by
  intro W hW hpos
  obtain⟨_,z2,z3,_⟩:=bV (HS.out.below ai.keeps hW)
  cases a with
  | none=>rw[q1,z2 rfl]at hpos;exact absurd hpos (by decide)
  | some ad=>exact⟨ad,rfl,fun j v hv=>z3 ad rfl j v hv⟩
 have q3:∀v ∈ af l,v.oneCell'=true:=by
  intro v hv
  obtain⟨x,_,rfl⟩:=List.mem_map.1 hv
  rfl
 have q4:12+(af l).length<=(af (iG g k kind n)).length:=by
  have:=sB g k kind n
  simp only[af,List.length_map]at *
  omega
 have hsp:splice (af (iG g k kind n)) 12 (af l)=af (jV g k kind l):=by
  rw[<-Al g k kind l om,hl]
  simp[splice,af,List.map_append,List.map_take,List.map_drop,hl]
 have HSP:=aa hsp
 have Q1:=aa q1
 clear hl hsp q1
 go_wp2_with (refine wpList_copy_splice rfl (.tmp 23) (.tmp 24) 40 40 rfl 5 Tryz.underlying40 qB (some ⟨w.heap.size,12,none⟩) a 116 116 n c ?hd ?hs w.heap.size 12 (af (iG g k kind n)) 115 HR3.out (af l) Q1.out (fun h=>⟨rfl,q2.out _ hB3 h⟩) q4 q3 w.heap.size w hB3 (Nat.le_refl _) ?_;(case hd=>rfl);(case hs=>rfl);intro w4 HR4 hB4)
 have hr4:ac w4 w.heap.size 115 (af (jV g k kind l)):=by rw[<-HSP.out];exact HR4.out
 have HR4:=aa hr4
 clear hr4 c10 c11 f10 f11 hB3 HR3 q2 q3 q4
 have hl:l.length<=112:=by rw[HL.out];exact hn
 refine(ig w.heap.size 124 4 _ g 115 (jV g k kind l) _ hg om om (by rw[sC _ _ _ _ hl];omega) HR4.out).mono ?_
 rintro e w5 ⟨⟨v5,rfl⟩,hr5,hB5,hz5,ho5⟩
 rw[Am _ _ _ _ hl]at hr5
 have hB5:Below w.heap.size w w5:=hB4.trans hB5
 have HR5:=aa hr5
 have hcl:=Ae (eh k kind l)
 obtain⟨s,hs⟩:=zg (ne (eh k kind l))
 have hsl:s<4294967296:=by rw[hs];exact hcl
 have H87:Hid (∀W,ac W w.heap.size 115 (af (jW g k kind l))->Calls Tryz.prog 91 #[.slice (some ⟨w.heap.size,8,none⟩) 116 120] W fun e w'=>e=.returned (.int .u32 s)/\W=w'):=fun W hW=>by
  rw[hs,<-yh g k kind l hl]
  exact me _ _ _ _ W om (Ao 8 116 (by rw[mH _ _ _ _ hl];omega) hW)
 have H86:Hid (∀W,ac W w.heap.size 115 (af (jW g k kind l))->Calls Tryz.prog 90 #[.slice (some ⟨w.heap.size,4,none⟩) 4 124,.int .u64 s] W fun e w'=>(∃v,e=.returned v)/\ac w' w.heap.size 115 (af (eK g k kind l))/\Below w.heap.size W w'):=fun W hW=>by
  refine(ig w.heap.size 4 4 _ s 115 (jW g k kind l) W om om om (by rw[mH _ _ _ _ hl];omega) hW).mono ?_
  rintro e w' ⟨h1,h2,h3,_,_⟩
  rw[hs,An _ _ _ _ hl]at h2
  exact⟨h1,h2,h3⟩
 have ws:IntKind.u64.wrap (s:Int)=(s:Int):=by rw[IntKind.wrap_u64];omega
 clear hr5 ho5 hz5 HR4 hB4 hs hcl
 go_wp2_with fail
 go_region_law (first
  | ((try go_simp);go_at_call 91;refine(H87.out _ (by exact HR5.out)).mono ?_;rintro e w' ⟨rfl,rfl⟩)
  | ((try go_simp);go_at_call 90;refine(H86.out _ (by exact HR5.out)).mono ?_;rintro e w6 ⟨⟨v6,rfl⟩,hr6,hB6⟩;have HR6:=aa hr6;clear hr6))
 all_goals
  go_wp2
  go_ret
  exact⟨rfl,HR6.out,hB5.trans ((Below.refl _ w5).drew.trans hB6)⟩
end Go.Proofs.YtmflnpdmlfmcpaaGreatDoor
namespace Go.Proofs.YtmflnpdmlfmcpaaGreatDoor
open Go.RowKit
theorem iF (z:Value)(k:Nat):Builtin.zeroCells #[z] k=(List.replicate k z).toArray:=by
 apply Array.ext
 ·simp[Builtin.zeroCells]
 ·intro i h1 h2
  simp[Builtin.zeroCells,Nat.mod_one]
theorem kF {P:Program}{w:World}(t tn ty base:Nat)(e:TypeId)(i:TypeInfo)(z:Value)(bytes:Nat)(kq kn:IntKind)(ht:P.underlying t=some (.slice e))(htn:P.underlying tn=some (.int kn))(hi:P.info? e=some i)(hz:i.zero=some z)
  (hsize:i.size=1) (hby:i.bytes=bytes) (hzs:z.cells=#[z]) (h1:z.oneCell'=true)
  (v:Value) (n:Nat) (xs:List Value) (hown:w.ownsRow base e 1 v n xs) (k:Nat)
  (h63:n+k<=maxLen) (hbytes:(n+k)*bytes<=140737488355328) (hbase:base<=w.heap.size) :
  ∃va vc w',(Builtin.append_ #[t,tn] ty #[v,.int kq k]).run P w=.ok (.slice va (n+k) vc) w'/\w'.ownsRow base e 1 (.slice va (n+k) vc) (n+k) (xs++List.replicate k z)/\w.grownBy w' v.ownBlock:=by
 have hlen:(xs++List.replicate k z).length=(n+k)*1:=by simp[hown.1]
 have hm:n+k<=9223372036854775807:=by unfold maxLen at h63;omega
 have hkb:k*bytes<=140737488355328:=Nat.le_trans (Nat.mul_le_mul_right _ (Nat.le_add_left k n)) hbytes
 have made:∀old:Nat,old<n+k->(w.drew.alloc (.cells (xs.toArray++Builtin.zeroCells z.cells k++Builtin.zeroCells z.cells (grownCap w (n+k) old e-(n+k))) e)).ownsRow base e 1
    (.slice (some ⟨w.heap.size,0,none⟩) (n+k) (grownCap w (n+k) old e)) (n+k) (xs++List.replicate k z):=by
  intro old _
  refine⟨hlen,.inr ⟨w.heap.size,_,_,rfl,hbase,heap_alloc_new w.drew _,grownCap_ge w (n+k) old e,grownCap_le_maxLen w (n+k) old e h63,?_,?_⟩⟩
  ·have hge:=grownCap_ge w (n+k) old e
   have hx:=hown.1
   rw[hzs]
   simp only[Array.size_append,List.size_toArray,size_zeroCells,hx]
   simp
   omega
  ·rw[hzs,iF,iF]
   simp only[Array.toList_append]
   rw[<-hlen]
   exact List.take_left
 have grew:∀o row,w.grownBy (w.drew.alloc o) row:=fun o row=>⟨rfl,rfl,rfl,by simp,fun q hq _=>Below.heap_alloc w.drew o q hq⟩
 have hneg:¬((k:Int)<0):=om
 have hw:IntKind.i64.wrap (k:Int)=k:=by rw[IntKind.wrap_i64];omega
 have hw0:IntKind.i64.wrap 0=0:=by decide
 have h48i:¬(281474976710656<(k:Int)*(i.bytes:Int)):=by
  rw[<-Int.natCast_mul,hby]
  omega
 rcases hown.2 with ⟨rfl,rfl⟩|⟨g,cap,cur,rfl,hbg,hg,hnc,hcm,hcs,htake⟩
 ·obtain rfl:xs=[]:=List.eq_nil_of_length_eq_zero (by simpa using hown.1)
  by_cases hk:k=0
  ·subst hk
   refine⟨none,0,w,?_,World.ownsRow_nil w base e 1,lv _ _⟩
   simp[Builtin.append_,run_underlying ht,run_underlying htn,sizeOf,typeInfo,hi,asInt,asIntOf,hw0]
  ·have hr:=Lib.run_append_nil_zeros (P:=P) w t tn ty e i z kq kn ht htn hi hz k om om om (by rw[hby];omega)
   have hm0:=made 0 om
   simp only[Nat.zero_add,List.nil_append,Array.empty_append]at hm0 ⊢
   exact⟨_,_,_,hr,hm0,grew _ _⟩
 ·by_cases hroom:n+k<=cap
  ·have hfit:n+(List.replicate k z).length<=cur.size:=by simp;omega
   have hst:=run_storeCells_at P g n e (List.replicate k z) 0 cur w hg (by simpa using hfit) (fun u hu=>by rw[List.eq_of_mem_replicate hu];exact h1)
   simp only[Nat.add_zero]at hst
   refine⟨_,_,w.setRow g (cur.toList.take n++List.replicate k z++cur.toList.drop (n+(List.replicate k z).length)).toArray,?_,⟨hlen,.inr ⟨g,cap,_,rfl,hbg,setRow_heap w g cur _ e _ hg,hroom,hcm,?_,?_⟩⟩,⟨rfl,rfl,rfl,by simp,fun q _ hq=>setRow_other w g q _ (fun e=>hq (by simp[Value.ownBlock,e]))⟩⟩
   ·by_cases hk:k=0
    ·subst hk
     simp only[List.replicate_zero]at hst
     simp[Builtin.append_,run_underlying ht,run_underlying htn,sizeOf,typeInfo,zeroValue,hi,hz,hsize,asInt,asIntOf,hw0,hnc,Addr.add_lit,hst]
    ·have hstz:(List.replicate k z).toArray.toList=List.replicate k z:=rfl
     simp[Builtin.append_,run_underlying ht,run_underlying htn,sizeOf,typeInfo,zeroValue,hi,hz,hsize,asInt,asIntOf,hw,hneg,h48i,hk,hroom,Addr.add_lit,hzs,iF,hst]
   ·simp only[List.size_toArray,List.length_append,List.length_take,List.length_drop,Array.length_toList,List.length_replicate]
    omega
   ·have htk:cur.toList.take n=xs:=by simpa using htake
    rw[htk,<-hlen]
    exact List.take_left
  ·have holds:∀j u,xs[j]? = some u->w.cell? ((⟨g,0,none⟩:Addr).add j)=some u:=hown.cells (g:=g) rfl
   have hf:(Builtin.firstCells i.size n (.slice (some ⟨g,0,none⟩) n cap)).run P w.drew=.ok xs.toArray w.drew:=run_firstCells_some (P:=P) w.drew i.size n ⟨g,0,none⟩ n cap xs (by rw[hsize];exact hown.1) holds
   have hr:=Lib.run_append_grow_zeros (P:=P) w t tn ty e i z kq kn ht htn hi hz (some ⟨g,0,none⟩) n cap xs hf k om om om om (by rw[hby];omega) (growslice_fits om (by rw[hby];exact hbytes))
   exact⟨_,_,_,hr,made cap om,grew _ _⟩
theorem ll {P:Program}{w:World}{o:Oper}{a:Act}{K:Act->World->Prop}{Q:Exit->Act->World->Prop}(s x:Operand)(t tn:TypeId)
  (ho:o.op=.call { callee:=.builtin .append,args:=#[s,x],argTypes:=#[t,tn] })
  (base:Nat) (e:TypeId) (i:TypeInfo) (z:Value) (bytes:Nat) (kq kn:IntKind) (ht:P.underlying t=some (.slice e)) (htn:P.underlying tn=some (.int kn)) (hi:P.info? e=some i) (hz:i.zero=some z)
  (hsize:i.size=1) (hby:i.bytes=bytes) (hzs:z.cells=#[z]) (h1:z.oneCell'=true)
  (v:Value) (n:Nat) (xs:List Value) (hs:a.eval s=v) (hown:w.ownsRow base e 1 v n xs) (k:Nat) (hx:a.eval x=.int kq k)
  (h63:n+k<=maxLen) (hbytes:(n+k)*bytes<=140737488355328) (hbase:base<=w.heap.size)
  (h:∀va vc w',w'.ownsRow base e 1 (.slice va (n+k) vc) (n+k) (xs++List.replicate k z)->w.grownBy w' v.ownBlock->K (a.put o.dst (.slice va (n+k) vc)) w'):o.wp P a w K Q:=by
 obtain⟨va,vc,w',hr,h2,h3⟩:=kF (P:=P) (w:=w) t tn o.type base e i z bytes kq kn ht htn hi hz hsize hby hzs h1 v n xs hown k h63 hbytes hbase
 unfold Oper.wp execOp
 simp only[ho,resolve,invoke,builtin,Sem.run_bind,Sem.run_pure,Result.andThen_ok,List.map_toArray,List.map_cons,List.map_nil,hs,hx,hr]
 exact h va vc w' h2 h3
theorem jt {P:Program}{w:World}{ops:Array Oper}{rest:List Oper}{o:Oper}{a:Act}{Q:Exit->Act->World->Prop}(hgd:o.guard=none)(s x:Operand)(t tn:TypeId)
  (ho:o.op=.call { callee:=.builtin .append,args:=#[s,x],argTypes:=#[t,tn] })
  (base:Nat) (e:TypeId) (i:TypeInfo) (z:Value) (bytes:Nat) (kq kn:IntKind) (ht:P.underlying t=some (.slice e)) (htn:P.underlying tn=some (.int kn)) (hi:P.info? e=some i) (hz:i.zero=some z)
  (hsize:i.size=1) (hby:i.bytes=bytes) (hzs:z.cells=#[z]) (h1:z.oneCell'=true)
  (v:Value) (n:Nat) (xs:List Value) (hs:a.eval s=v) (hown:w.ownsRow base e 1 v n xs) (k:Nat) (hx:a.eval x=.int kq k)
  (h63:n+k<=maxLen) (hbytes:(n+k)*bytes<=140737488355328) (hbase:base<=w.heap.size)
  (h:∀va vc w',w'.ownsRow base e 1 (.slice va (n+k) vc) (n+k) (xs++List.replicate k z)->w.grownBy w' v.ownBlock->wpList P ops Q rest (a.put o.dst (.slice va (n+k) vc)) w'):wpList P ops Q (o::rest) a w:=
 wpList_plain hgd fun _ hK=>ll s x t tn ho base e i z bytes kq kn ht htn hi hz hsize hby hzs h1 v n xs hs hown k hx h63 hbytes hbase fun va vc w' h2 h3=>hK _ _ (h va vc w' h2 h3)
theorem C5 {w:World}{g base:Nat}{e:TypeId}{l:List Value}(n:Nat)(h:ac w g e l)(hb:base<=g)(hn:l.length=n)(hm:n<=maxLen):w.ownsRow base e 1 (.slice (some ⟨g,0,none⟩) n n) n l:=
 ⟨om,.inr ⟨g,n,_,rfl,hb,h,Nat.le_refl _,hm,by simp;omega,by rw[Nat.mul_one,<-hn];exact List.take_length⟩⟩
end Go.Proofs.YtmflnpdmlfmcpaaGreatDoor
namespace Go.Proofs.YtmflnpdmlfmcpaaGreatDoor
open Go.RowKit
variable {Nz : Nat}
theorem iS (a:Option Addr)(n c:Nat)(l:List UInt8)(w:World)(hn:n<=6)(h:Sl 1 ai w a n l) :
  Calls Tryz.prog 46 #[.slice a n c] w fun e w'=>e=.returned (.int .u64 (dU l))/\w=w':=by
 have HL:=aa h.len
 rcases h.bytes with h0|⟨b,off,rfl,hc⟩
 ·obtain rfl:=h0
  clear h
  go_enter Tryz.func46,Tryz.ntmps46
  go_wp2
  refine wp_loop_rounds 1 ?_
  rw[rounds_succ]
  go_wp2
  go_ret
  exact⟨bY (by rw[List.eq_nil_of_length_eq_zero HL.out];rfl),rfl⟩
 clear h
 go_enter Tryz.func46,Tryz.ntmps46
 go_wp2
 go_loop [2,7] (fun z i=>∃k:Nat,k<=n/\i=.int .i64 k/\z=.int .u64 (dU (l.take k))) (fun _ i=>n-(intOf i).toNat)
 case atStart=>exact⟨0,Nat.zero_le _,rfl,rfl⟩
 case round =>
  obtain⟨k,hk,rfl,rfl⟩:=hrel
  by_cases hlt:k<n
  ·obtain⟨x,hx⟩:=av HL.out hlt
   have hcell:=hc k x hx
   have hu:=pF l k x hx
   have hs:=nO l k om
   have hxl:=x.toNat_lt
   obtain⟨u,hu0⟩:=zg (dU (l.take k))
   rw[<-hu0]at hu hs ⊢
   have HU:=aa hu
   obtain⟨xx,hxx⟩:=zg x.toNat
   rw[<-hxx]at hcell hxl
   have HXX:=aa hxx
   have w1:IntKind.u64.wrap ((u:Int)*256)=((u*256:Nat):Int):=by rw[IntKind.wrap_u64];omega
   have w3:IntKind.u64.wrap (xx:Int)=(xx:Int):=by rw[IntKind.wrap_u64];omega
   have w2:bits .or .u64 ((u*256:Nat):Int) (xx:Int)=((u*256+xx:Nat):Int):=by rw[u64_or_nat (u*256) xx om om,qN u xx hxl]
   clear hc hx hu hu0 hxx
   go_wp2
   go_round
   case rel =>
    refine⟨k+1,om,by go_num,?_⟩
    rw[HU.out,<-HXX.out,show (u:Int)*256=((u*256:Nat):Int) by omega,w2]
   case measure=>simp[intOf];omega
  ·obtain rfl:k=n:=om
   clear hc
   go_wp2
   go_ret
   exact⟨bY (by rw[List.take_of_length_le (by have:=HL.out;omega)]),rfl⟩
end Go.Proofs.YtmflnpdmlfmcpaaGreatDoor
namespace Go.Proofs.YtmflnpdmlfmcpaaGreatDoor
open Go.RowKit
variable {Nz : Nat}
theorem iA (a:Option Addr)(n c:Nat)(b:Option Addr)(m d:Nat)(l l':List UInt8)(w:World)(h:Sl 1 ai w a n l)(h':Sl 1 ai w b m l') :
  Calls Tryz.prog 48 #[.slice a n c,.slice b m d] w fun e w'=>e=.returned (.bool (decide (l=l')))/\w=w':=by
 have t1:(convert 40 9 (.slice a n c)).run Tryz.prog w=.ok (.string (aw l)) w:=l9 h (Below.refl _ w)
 have t2:(convert 40 9 (.slice b m d)).run Tryz.prog w=.ok (.string (aw l')) w:=l9 h' (Below.refl _ w)
 clear h h'
 go_enter Tryz.func48,Tryz.ntmps48
 go_wp2
 go_ret
 refine⟨bK ?_,rfl⟩
 have e:∀l:List UInt8,(aw l).toList=l:=fun l=>by
  simp[aw]
 rw[e,e]
 by_cases h:l=l'<;>simp[h]
theorem vN (a:Option Addr)(n c:Nat)(b:Option Addr)(m d:Nat)(l l':List (List UInt8))(w:World)(hn:n<=5000)(h:Sl 1 (aN Nz) w a n l)(h':Sl 1 (aN Nz) w b m l')(hm:m<=maxLen) :
  Calls Tryz.prog 47 #[.slice a n c,.slice b m d,.func (.func 48) #[] #[]] w fun e w'=>e=.returned (.bool (decide (l=l')))/\w=w':=by
 have HL:=aa h.len
 have HM:=aa h'.len
 unfold maxLen at hm
 go_enter Tryz.func47,Tryz.ntmps47
 by_cases hnm:n=m
 ·subst hnm
  rcases h.secs with h0|⟨f,o,rfl,hc⟩
  ·obtain rfl:=h0
   clear h h'
   go_wp2
   refine wp_loop_rounds 1 ?_
   rw[rounds_succ]
   go_wp2
   go_ret
   exact⟨bK (by rw[List.eq_nil_of_length_eq_zero HL.out,List.eq_nil_of_length_eq_zero HM.out];rfl),rfl⟩
  rcases h'.secs with h0|⟨f',o',rfl,hc'⟩
  ·obtain rfl:=h0
   clear h h'
   go_wp2
   refine wp_loop_rounds 1 ?_
   rw[rounds_succ]
   go_wp2
   go_ret
   exact⟨bK (by rw[List.eq_nil_of_length_eq_zero HL.out,List.eq_nil_of_length_eq_zero HM.out];rfl),rfl⟩
  clear h h'
  have HC:=aa hc
  have HC':=aa hc'
  clear hc hc'
  go_wp2
  go_loop [17] (fun i=>∃k:Nat,k<=n/\i=.int .i64 k/\l.take k=l'.take k) (fun i=>n-(intOf i).toNat)
  case atStart=>exact⟨0,Nat.zero_le _,rfl,by simp⟩
  case round =>
   obtain⟨k,hk,rfl,hpre⟩:=hrel
   have HPRE:=aa hpre
   clear hpre
   by_cases hlt:k<n
   ·obtain⟨x,hx⟩:=av HL.out hlt
    obtain⟨y,hy⟩:=av HM.out hlt
    obtain⟨xa,xn,xc,_,_,hxs,hcell⟩:=HC.out k x hx
    obtain⟨ya,yn,yc,_,_,hys,hdell⟩:=HC'.out k y hy
    have HE:=aa (iA xa xn xc ya yn yc x y w hxs hys)
    have HX:=aa hx
    have HY:=aa hy
    clear hx hy hxs hys
    cases hxy:decide (x=y)
    ·rw[hxy]at HE
     have HN:Hid (decide (l=l')=false):=by
      show _=_
      refine decide_eq_false ?_
      rintro rfl
      have:=HX.out.symm.trans HY.out
      simp only[Option.some.injEq]at this
      simp[this]at hxy
     clear hxy
     go_wp2_with (go_at_call 48;refine HE.out.mono ?_;rintro e w' ⟨rfl,rfl⟩)
     go_ret
     exact⟨bK HN.out.symm,rfl⟩
    ·rw[hxy]at HE
     have HN:Hid (l.take (k+1)=l'.take (k+1)):=by
      show _=_
      rw[cp l k x HX.out,cp l' k y HY.out,HPRE.out,of_decide_eq_true hxy]
     clear hxy
     go_wp2_with (go_at_call 48;refine HE.out.mono ?_;rintro e w' ⟨rfl,rfl⟩)
     go_round
     case rel=>exact⟨k+1,om,by go_num,HN.out⟩
     case measure=>simp[intOf];omega
   ·obtain rfl:k=n:=om
    clear HC HC'
    go_wp2
    go_ret
    exact⟨bK (by have:=HPRE.out;rw[List.take_of_length_le (by have:=HL.out;omega),List.take_of_length_le (by have:=HM.out;omega)]at this;simp[this]),rfl⟩
 ·have HN:Hid (decide (l=l')=false):=by
   show _=_
   refine decide_eq_false ?_
   rintro rfl
   exact hnm (HL.out.symm.trans HM.out)
  clear h h'
  go_wp2
  go_ret
  exact⟨bK HN.out.symm,rfl⟩
end Go.Proofs.YtmflnpdmlfmcpaaGreatDoor
