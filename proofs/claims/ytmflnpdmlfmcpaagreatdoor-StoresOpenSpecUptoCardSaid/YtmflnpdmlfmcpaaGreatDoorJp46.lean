/- Joined texts. -/
import Derived.Test.YtmflnpdmlfmcpaaGreatDoorJp42
import Derived.Test.YtmflnpdmlfmcpaaGreatDoorJp45
namespace Go.Proofs.YtmflnpdmlfmcpaaGreatDoor.Dr
open Go.RowKit Go.Shelf
def vA (Nz:Nat)(e:Ending)(w:World)(x:am)(m:List ar)(k:Int):Prop:=∃a n c va vn vc,e=.returned (.tuple #[.agg #[.slice a n c,.int .i64 x.many,.int .i64 x.synced],.slice va vn vc,.int .i64 k])/\cg Nz w a n c x/\vn<=vc/\Sl 35 aq w va vn m
theorem mx.g {Nz:Nat}{e:Ending}{w:World}{r:am × List ar × Int}{x:am}{m:List ar}{k:Int}(h:mx Nz e w r)(hr:r=(x,m,k)):vA Nz e w x m k:=by
 subst hr
 exact h
theorem Bj {Nz:Nat}(a1:Option Addr)(n1 c1:Nat)(a2:Option Addr)(n2 c2:Nat)(d:aj)(w:World)(hn:d.okB=true->n1<=100)(hi:dV w)(h:bF Nz w a1 n1 c1 a2 n2 c2 d) :
  Calls Tryz.prog 7 #[.agg #[.slice a1 n1 c1,.slice a2 n2 c2,.int .i64 d.left,.bool d.stopped]] w fun e w'=>mx Nz e w' (eS d)/\Below w.heap.size w w':=
 (xM a1 n1 c1 a2 n2 c2 d w hn hi h).mono fun e w' ⟨⟨a,n,c,vs,va,vn,vc,us,he,hj,hown,hfl⟩,hB⟩=>by
  obtain⟨h1,h2⟩:=eB (by decide) hown _ (jl.len hown hfl).symm (iD hfl)
  exact⟨⟨a,n,c,va,vn,vc,he,hj.jour,h1,h2⟩,hB⟩
theorem my {Nz:Nat}{a1:Option Addr}{n1 c1:Nat}{a2:Option Addr}{n2 c2:Nat}{d:aj}{w:World}{x:am}{m:List ar}{k:Int}(hn:d.okB=true->n1<=100)(hi:dV w)(h:bF Nz w a1 n1 c1 a2 n2 c2 d)(hr:eS d=(x,m,k)) :
  Calls Tryz.prog 7 #[.agg #[.slice a1 n1 c1,.slice a2 n2 c2,.int .i64 d.left,.bool d.stopped]] w fun e w'=>vA Nz e w' x m k/\Below w.heap.size w w':=
 (Bj a1 n1 c1 a2 n2 c2 d w hn hi h).mono fun _ _ ⟨h1,h2⟩=>⟨h1.g hr,h2⟩
theorem ir {Nz:Nat}{a:Option Addr}{n c:Nat}{j:am}{la:Option Addr}{ln lc:Nat}{l:List ar}{node:Int}{da:Option Addr}{dn dc:Nat}{d:List UInt8}{w:World}{x:am}{m:List ar}{k:Int}(hNz:Nz<=w.heap.size)(hi:dV w)(h:cg Nz w a n c j)
  (hln:ln<=100000) (hlc:ln<=lc) (hl:Sl 35 aq w la ln l) (hld:∀x ∈ l,x.data.length<=100000) (hI:bQ node) (hdn:dn<=1000000) (hs:Sl 1 ai w da dn d) (hr:bE j l node d=(x,m,k)) :
  Calls Tryz.prog 14 #[.agg #[.slice a n c,.int .i64 j.many,.int .i64 j.synced],.slice la ln lc,.int .i64 node,.slice da dn dc] w fun e w'=>vA Nz e w' x m k/\Below w.heap.size w w':=
 (oZ a n c j la ln lc l node da dn dc d w hNz hi h hln hlc hl hld hI hdn hs).mono fun _ _ ⟨h1,h2⟩=>⟨h1.g hr,h2⟩
def vB (Nz:Nat)(e:Ending)(w:World)(x:am)(y:aj)(k:Int):Prop:=∃a n c a1 n1 c1 a2 n2 c2,e=.returned (.tuple #[.agg #[.slice a n c,.int .i64 x.many,.int .i64 x.synced],.agg #[.slice a1 n1 c1,.slice a2 n2 c2,.int .i64 y.left,.bool y.stopped],.int .i64 k])/\cg Nz w a n c x/\bF Nz w a1 n1 c1 a2 n2 c2 y
theorem eG.g {Nz:Nat}{e:Ending}{w:World}{r:am × aj × Int}{x:am}{y:aj}{k:Int}(h:eG Nz e w r)(hr:r=(x,y,k)):vB Nz e w x y k:=by
 subst hr
 exact h
theorem Bk {Nz:Nat}{a:Option Addr}{n c:Nat}{j:am}{a1:Option Addr}{n1 c1:Nat}{a2:Option Addr}{n2 c2:Nat}{d:aj}{w:World}{x:am}{y:aj}{k:Int}(hNz:Nz<=w.heap.size)(hn:d.okB=true->n1<=100)(hi:dV w)(h:cg Nz w a n c j)(hD:bF Nz w a1 n1 c1 a2 n2 c2 d)(hr:iE j d=(x,y,k)) :
  Calls Tryz.prog 9 #[.agg #[.slice a n c,.int .i64 j.many,.int .i64 j.synced],.agg #[.slice a1 n1 c1,.slice a2 n2 c2,.int .i64 d.left,.bool d.stopped]] w fun e w'=>vB Nz e w' x y k/\Below w.heap.size w w':=
 (Bh a n c j a1 n1 c1 a2 n2 c2 d w hNz hn hi h hD).mono fun _ _ ⟨h1,h2⟩=>⟨eG.g h1 hr,h2⟩
theorem Bl {Nz:Nat}{a:Option Addr}{n c:Nat}{j:am}{a1:Option Addr}{n1 c1:Nat}{a2:Option Addr}{n2 c2:Nat}{d:aj}{w:World}{x:am}{y:aj}{k:Int}(hNz:Nz<=w.heap.size)(hn:d.okB=true->n1<=100)(h:cg Nz w a n c j)(hD:bF Nz w a1 n1 c1 a2 n2 c2 d)(hr:cC j d=(x,y,k)) :
  Calls Tryz.prog 18 #[.agg #[.slice a n c,.int .i64 j.many,.int .i64 j.synced],.agg #[.slice a1 n1 c1,.slice a2 n2 c2,.int .i64 d.left,.bool d.stopped]] w fun e w'=>vB Nz e w' x y k/\Below w.heap.size w w':=
 (jsync_b a n c j a1 n1 c1 a2 n2 c2 d w hNz hn h hD).mono fun _ _ ⟨h1,h2⟩=>⟨eG.g h1 hr,h2⟩
end Go.Proofs.YtmflnpdmlfmcpaaGreatDoor.Dr
