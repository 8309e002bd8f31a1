/- Joined texts. -/
import Derived.Test.YtmflnpdmlfmcpaaGreatDoorJp32
import Derived.Test.YtmflnpdmlfmcpaaGreatDoorJp31
import Derived.Test.YtmflnpdmlfmcpaaGreatDoorJp33
import Derived.Deep.CutBlock
import Derived.Lib.SlBytesConst
import Derived.Test.YtmflnpdmlfmcpaaGreatDoorJp35
import Derived.Test.YtmflnpdmlfmcpaaGreatDoorJp38
set_option maxRecDepth 100000
set_option maxHeartbeats 8000000
namespace Go.Proofs.YtmflnpdmlfmcpaaGreatDoor
open Go.RowKit
variable {Nz : Nat}
def dM (b:List UInt8)(k:Nat):List UInt8:=(b.drop (112*k)).take 112
def cl (g at':Nat)(b:List UInt8)(k:Nat):List UInt8:=eK g (at'+k) (dg (decide (k=0)) (decide (k+1=bd b.length))) (dM b k)
def dy (d:aj)(g at':Nat)(b:List UInt8):Nat->aj
 | 0=>d
 | k+1=>(dy d g at' b k).more ((at'+k:Nat):Int) (cl g at' b k)
def bB (g:Nat):aj->Nat->List (List UInt8)->aj
 | d,_,[]=>d
 | d,at',b::bs=>bB g (dy d g at' b (bd b.length)) (at'+bd b.length) bs
theorem ip (b:List UInt8)(k:Nat):(dM b k).length=min 112 (b.length-112*k):=by simp[dM]
theorem fb (b:List UInt8)(k:Nat):(dM b k).length<=112:=by rw[ip];omega
theorem fM (g at':Nat)(b:List UInt8)(k:Nat):(cl g at' b k).length=128:=jT _ _ _ (fb b k)
theorem iy (d:aj)(g at':Nat)(b:List UInt8)(k:Nat):(dy d g at' b k).secs=d.secs:=by
 induction k with
 | zero=>rfl
 | succ k ih=>exact ih
theorem sV (d:aj)(g at':Nat)(b:List UInt8)(k:Nat):(dy d g at' b k).left=d.left:=by
 induction k with
 | zero=>rfl
 | succ k ih=>exact ih
theorem iz (d:aj)(g at':Nat)(b:List UInt8)(k:Nat):(dy d g at' b k).pend.length=d.pend.length+k:=by
 induction k with
 | zero=>rfl
 | succ k ih =>
  show ((dy d g at' b k).pend++[_]).length=_
  rw[List.length_append,ih]
  rfl
theorem rP {d:aj}{g at':Nat}{b:List UInt8}{k:Nat}(hr:(dy d g at' b k).runs=true)(h1:at'+k<d.secs.length)(h2:d.pend.length+k<4096):(dy d g at' b k).write ((at'+k:Nat):Int) (cl g at' b k)=(dy d g at' b (k+1),0):=by
 have hc:(dy d g at' b k).canRead ((at'+k:Nat):Int)=true:=j6.2 ⟨hr,om,by rw[iy];omega⟩
 unfold aj.write
 rw[if_pos hc,if_pos (by rw[fM];omega),if_neg (by rw[iz];omega)]
 rfl
theorem mX {d:aj}{g at':Nat}{b:List UInt8}(k:Nat)(hr:d.runs=true)(h1:at'+k<=d.secs.length)(h2:d.pend.length+k<=4096):(dy d g at' b k).runs=true:=by
 induction k with
 | zero=>exact hr
 | succ k ih =>
  have hr':=ih om om
  exact xy (j6.2 ⟨hr',om,by rw[iy];omega⟩) (by rw[fM];omega) (by rw[iz];omega)
theorem pA (g:Nat)(d:aj)(at':Nat)(l l':List (List UInt8)):bB g d at' (l++l')=bB g (bB g d at' l) (at'+au l) l':=by
 induction l generalizing d at' with
 | nil=>rfl
 | cons b l ih =>
  simp only[List.cons_append,bB,ih,au,List.map_cons,List.sum_cons,Nat.add_assoc]
theorem rQ (g:Nat)(d:aj)(at':Nat)(l:List (List UInt8))(k:Nat)(b:List UInt8)(h:l[k]? = some b):bB g d at' (l.take (k+1))=dy (bB g d at' (l.take k)) g (at'+au (l.take k)) b (bd b.length):=by
 rw[cp l k b h,pA]
 rfl
theorem lW (g:Nat)(d:aj)(at':Nat)(l:List (List UInt8)):(bB g d at' l).secs=d.secs:=by
 induction l generalizing d at' with
 | nil=>rfl
 | cons b l ih=>rw[bB,ih,iy]
theorem rR (g:Nat)(d:aj)(at':Nat)(l:List (List UInt8)):(bB g d at' l).left=d.left:=by
 induction l generalizing d at' with
 | nil=>rfl
 | cons b l ih=>rw[bB,ih,sV]
theorem rS (g:Nat)(d:aj)(at':Nat)(l:List (List UInt8)):(bB g d at' l).pend.length=d.pend.length+au l:=by
 induction l generalizing d at' with
 | nil=>rfl
 | cons b l ih =>
  rw[bB,ih,iz]
  simp only[au,List.map_cons,List.sum_cons]
  omega
theorem lX {g:Nat}{d:aj}{at':Nat}{l:List (List UInt8)}(hr:d.runs=true)(h1:at'+au l<=d.secs.length)(h2:d.pend.length+au l<=4096):(bB g d at' l).runs=true:=by
 induction l generalizing d at' with
 | nil=>exact hr
 | cons b l ih =>
  have hu:au (b::l)=bd b.length+au l:=by simp[au]
  rw[hu]at h1 h2
  rw[bB]
  exact ih (mX _ hr om om) (by rw[iy];omega) (by rw[iz];omega)
def cC (j:am)(d:aj):am × aj × Int:=
 if j.okB then
  (if d.okB then
   (if d.stopped then (.zero,.zero,40)
   else if j.many≠d.secs.length\/0<d.pend.length then (.zero,.zero,1)
   else if bN d.secs≠j.recs.take j.synced.toNat\/4294967295<cz d.secs+1 then (.zero,.zero,50)
   else if j.synced=j.recs.length then (j,d,0)
   else if (bB (cz d.secs+1) d (au (j.recs.take j.synced.toNat)) (j.recs.drop j.synced.toNat)).sync.2=0 then
    (⟨j.recs,j.many,j.recs.length⟩,(bB (cz d.secs+1) d (au (j.recs.take j.synced.toNat)) (j.recs.drop j.synced.toNat)).sync.1,0)
   else (.zero,(bB (cz d.secs+1) d (au (j.recs.take j.synced.toNat)) (j.recs.drop j.synced.toNat)).sync.1,(bB (cz d.secs+1) d (au (j.recs.take j.synced.toNat)) (j.recs.drop j.synced.toNat)).sync.2))
  else (.zero,.zero,40))
 else (.zero,.zero,1)
theorem uT {j:am}{d:aj}(h:j.okB=false):cC j d=(.zero,.zero,1):=by simp[cC,h]
theorem uU {j:am}{d:aj}(h:j.okB=true)(h2:d.okB=false):cC j d=(.zero,.zero,40):=by simp[cC,h,h2]
theorem qz {j:am}{d:aj}(h:j.okB=true)(h2:d.okB=true)(h3:d.stopped=true):cC j d=(.zero,.zero,40):=by simp[cC,h,h2,h3]
theorem oP {j:am}{d:aj}(h:j.okB=true)(h2:d.okB=true)(h3:d.stopped=false)(h4:j.many≠d.secs.length\/0<d.pend.length):cC j d=(.zero,.zero,1):=by
 simp only[cC,h,h2,h3,if_pos h4,if_true,Bool.false_eq_true,if_false]
theorem xA {j:am}{d:aj}(h:j.okB=true)(h2:d.okB=true)(h3:d.stopped=false)(h4:¬(j.many≠d.secs.length\/0<d.pend.length))(h5:bN d.secs≠j.recs.take j.synced.toNat\/4294967295<cz d.secs+1):cC j d=(.zero,.zero,50):=by
 simp only[cC,h,h2,h3,if_neg h4,if_pos h5,if_true,Bool.false_eq_true,if_false]
theorem oQ {j:am}{d:aj}(h:j.okB=true)(h2:d.okB=true)(h3:d.stopped=false)(h4:¬(j.many≠d.secs.length\/0<d.pend.length))(h5:¬(bN d.secs≠j.recs.take j.synced.toNat\/4294967295<cz d.secs+1))(h6:j.synced=j.recs.length):cC j d=(j,d,0):=by
 simp only[cC,h,h2,h3,if_neg h4,if_neg h5,if_pos h6,if_true,Bool.false_eq_true,if_false]
theorem oR {j:am}{d d2 z:aj}(h:j.okB=true)(h2:d.okB=true)(h3:d.stopped=false)(h4:¬(j.many≠d.secs.length\/0<d.pend.length))(h5:¬(bN d.secs≠j.recs.take j.synced.toNat\/4294967295<cz d.secs+1))(h6:j.synced≠j.recs.length)
  (hd:bB (cz d.secs+1) d (au (j.recs.take j.synced.toNat)) (j.recs.drop j.synced.toNat)=d2) (hs:d2.sync=(z,0)):cC j d=(⟨j.recs,j.many,j.recs.length⟩,z,0):=by
 simp only[cC,h,h2,h3,if_neg h4,if_neg h5,if_neg h6,if_true,Bool.false_eq_true,if_false,hd,hs]
theorem oS {j:am}{d d2 z:aj}{n:Int}(h:j.okB=true)(h2:d.okB=true)(h3:d.stopped=false)(h4:¬(j.many≠d.secs.length\/0<d.pend.length))(h5:¬(bN d.secs≠j.recs.take j.synced.toNat\/4294967295<cz d.secs+1))(h6:j.synced≠j.recs.length)
  (hd:bB (cz d.secs+1) d (au (j.recs.take j.synced.toNat)) (j.recs.drop j.synced.toNat)=d2) (hs:d2.sync=(z,n)) (hn:n≠0):cC j d=(.zero,z,n):=by
 simp only[cC,h,h2,h3,if_neg h4,if_neg h5,if_neg h6,if_true,Bool.false_eq_true,if_false,hd,hs,if_neg hn]
end Go.Proofs.YtmflnpdmlfmcpaaGreatDoor
namespace Go.Proofs.YtmflnpdmlfmcpaaGreatDoor
open Go.RowKit
variable {Nz : Nat}
def BY : Nat->Code->Code
 | 0,c=>c
 | k+1,.seq _ b=>BY k b
 | _+1,c=>c
def eG (Nz:Nat)(e:Ending)(w:World)(p:am × aj × Int):Prop:=∃a k c a1 n1 c1 a2 n2 c2,e=.returned (.tuple #[.agg #[.slice a k c,.int .i64 p.1.many,.int .i64 p.1.synced],.agg #[.slice a1 n1 c1,.slice a2 n2 c2,.int .i64 p.2.1.left,.bool p.2.1.stopped],.int .i64 p.2.2])/\cg Nz w a k c p.1/\bF Nz w a1 n1 c1 a2 n2 c2 p.2.1
theorem DZ (w:World):bF Nz w none 0 0 none 0 0 aj.zero:=⟨Sl.nil _ _ _ _,Sl.nil _ _ _ _,by unfold maxLen;omega,by unfold maxLen;omega,Nat.le_refl _,Nat.le_refl _,bO.zero _ _,bO.zero _ _⟩
theorem ee {p:am × aj × Int}{w:World}{n:Int}(h:p=(.zero,.zero,n)):eG Nz (.returned (.tuple #[.agg #[.slice none 0 0,.int .i64 0,.int .i64 0],.agg zK,.int .i64 n])) w p:=by
 subst h;exact⟨none,0,0,none,0,0,none,0,0,rfl,iB w,DZ w⟩
theorem nE {α:Type}{R:World->List Value->α->Prop}{w:World}{a:Option Addr}{n k:Nat}{l:List α}(h:Sl 1 R w a n l)(hk:k<=n):Sl 1 R w a k (l.take k):=by
 obtain⟨hl,h⟩:=h
 refine⟨by simp;omega,?_⟩
 rcases h with h|⟨b,off,ha,h⟩
 ·exact .inl om
 ·refine .inr ⟨b,off,ha,fun i x hx=>h i x ?_⟩
  rw[List.getElem?_take]at hx
  split at hx
  ·exact hx
  ·cases hx
theorem lY (l l':List (List UInt8)):au (l++l')=au l+au l':=by simp[au]
structure lk (Nz:Nat)(w:World)(a:Option Addr)(n c:Nat)(mm:Int)(sy:Nat)(x:aj)(W:World)(p1:Option Addr)(q1 r1:Nat)(p2:Option Addr)(q2 r2:Nat):Prop where
 b:Below w.heap.size w W
 x0:W.heap[w.heap.size]? = some (.cells #[.slice a n c,.int .i64 mm,.int .i64 sy] 24 (0,0))
 x1:W.heap[w.heap.size+1]? = some (.cells #[.slice p1 q1 r1,.slice p2 q2 r2,.int .i64 x.left,.bool x.stopped] 27 (0,0))
 x2:W.heap[w.heap.size+1+1]? = some (.cells #[.slice none 0 0,.int .i64 0,.int .i64 0] 24 (0,0))
 x3:W.heap[w.heap.size+1+1+1]? = some (.cells zK 27 (0,0))
 d:bF Nz W p1 q1 r1 p2 q2 r2 x
theorem lk.below {w W W':World}{a:Option Addr}{n c:Nat}{mm:Int}{sy:Nat}{x:aj}{p1:Option Addr}{q1 r1:Nat}{p2:Option Addr}{q2 r2:Nat}(h:lk Nz w a n c mm sy x W p1 q1 r1 p2 q2 r2)(hb:Below W.heap.size W W'):lk Nz w a n c mm sy x W' p1 q1 r1 p2 q2 r2:=
 ⟨h.b.trans (hb.mono h.b.size),(hb.block _ (lt_of_block h.x0)).trans h.x0,(hb.block _ (lt_of_block h.x1)).trans h.x1,(hb.block _ (lt_of_block h.x2)).trans h.x2,(hb.block _ (lt_of_block h.x3)).trans h.x3,h.d.below hb⟩
theorem lk.stored {w W:World}{a:Option Addr}{n c:Nat}{mm:Int}{sy:Nat}{x z:aj}{p1:Option Addr}{q1 r1:Nat}{p2:Option Addr}{q2 r2:Nat}{p1':Option Addr}{q1' r1':Nat}{p2':Option Addr}{q2' r2':Nat}(h:lk Nz w a n c mm sy x W p1 q1 r1 p2 q2 r2)(hNz:Nz<=w.heap.size)(hJ:bF Nz W p1' q1' r1' p2' q2' r2' z) :
  lk Nz w a n c mm sy z ((((W.setCell ⟨w.heap.size+1,0,none⟩ (.slice p1' q1' r1')).setCell ⟨w.heap.size+1,1,none⟩ (.slice p2' q2' r2')).setCell ⟨w.heap.size+1,2,none⟩ (.int .i64 z.left)).setCell ⟨w.heap.size+1,3,none⟩ (.bool z.stopped)) p1' q1' r1' p2' q2' r2':=by
 obtain⟨g1,g2⟩:=qS h.x1 (.slice p1' q1' r1') (.slice p2' q2' r2') (.int .i64 z.left) (.bool z.stopped)
 have hB:w.heap.size<=w.heap.size+1:=om
 exact⟨(((h.b.setCell (p:=⟨w.heap.size+1,0,none⟩) hB _).setCell (p:=⟨w.heap.size+1,1,none⟩) hB _).setCell (p:=⟨w.heap.size+1,2,none⟩) hB _).setCell (p:=⟨w.heap.size+1,3,none⟩) hB _,
  (g2 _ om).trans h.x0,g1,(g2 _ om).trans h.x2,(g2 _ om).trans h.x3,hJ.box (X:=w.heap.size+1) om h.x1 (by decide) (by simp) (fun b _ hb=>g2 b hb)⟩
theorem A5 {w:World}{b:Nat}{t:TypeId}{o0 o1 o2:Value}(h:w.heap[b]? = some (.cells #[o0,o1,o2] t (0,0)))(v0 v1 v2:Value) :
  (((w.setCell ⟨b,0,none⟩ v0).setCell ⟨b,1,none⟩ v1).setCell ⟨b,2,none⟩ v2).heap[b]? = some (.cells #[v0,v1,v2] t (0,0))/\cW b w (((w.setCell ⟨b,0,none⟩ v0).setCell ⟨b,1,none⟩ v1).setCell ⟨b,2,none⟩ v2):=by
 refine⟨?_,(((cW.refl _ _).setCell _ _).setCell _ _).setCell _ _⟩
 have:=ax (ax (ax h 0 v0) 1 v1) 2 v2
 simpa using this
theorem cW.keep7 {X:Nat}{w W:World}(hO:cW X w W){b b':Nat}{v0 v1 v2 u0 u1 u2 u3:Value}(hb:b≠X)(hb':b'≠X)
  (h:w.cell? ⟨b,0,none⟩=some v0/\w.cell? ⟨b,1,none⟩=some v1/\w.cell? ⟨b,2,none⟩=some v2/\w.cell? ⟨b',0,none⟩=some u0/\w.cell? ⟨b',1,none⟩=some u1/\w.cell? ⟨b',2,none⟩=some u2/\w.cell? ⟨b',3,none⟩=some u3) :
  W.cell? ⟨b,0,none⟩=some v0/\W.cell? ⟨b,1,none⟩=some v1/\W.cell? ⟨b,2,none⟩=some v2/\W.cell? ⟨b',0,none⟩=some u0/\W.cell? ⟨b',1,none⟩=some u1/\W.cell? ⟨b',2,none⟩=some u2/\W.cell? ⟨b',3,none⟩=some u3:=by
 obtain⟨h0,h1,h2,h3,h4,h5,h6⟩:=h
 exact⟨(hO.cell hb).trans h0,(hO.cell hb).trans h1,(hO.cell hb).trans h2,(hO.cell hb').trans h3,(hO.cell hb').trans h4,(hO.cell hb').trans h5,(hO.cell hb').trans h6⟩
theorem kZ {W:World}{X Y:Nat}{o0 o1 o2 o3 o4 o5 o6:Value}(hX:W.heap[X]? = some (.cells #[o0,o1,o2] 24 (0,0)))(hY:W.heap[Y]? = some (.cells #[o3,o4,o5,o6] 27 (0,0)))(hXY:X≠Y)(v0 v1 v2 u0 u1 u2 u3:Value) :
  (((W.setCell ⟨X,0,none⟩ v0).setCell ⟨X,1,none⟩ v1).setCell ⟨X,2,none⟩ v2).heap[Y]? = some (.cells #[o3,o4,o5,o6] 27 (0,0))/\cW X W (((W.setCell ⟨X,0,none⟩ v0).setCell ⟨X,1,none⟩ v1).setCell ⟨X,2,none⟩ v2) /\
  (((((((W.setCell ⟨X,0,none⟩ v0).setCell ⟨X,1,none⟩ v1).setCell ⟨X,2,none⟩ v2).setCell ⟨Y,0,none⟩ u0).setCell ⟨Y,1,none⟩ u1).setCell ⟨Y,2,none⟩ u2).setCell ⟨Y,3,none⟩ u3).heap[X]? = some (.cells #[v0,v1,v2] 24 (0,0)) /\
  (((((((W.setCell ⟨X,0,none⟩ v0).setCell ⟨X,1,none⟩ v1).setCell ⟨X,2,none⟩ v2).setCell ⟨Y,0,none⟩ u0).setCell ⟨Y,1,none⟩ u1).setCell ⟨Y,2,none⟩ u2).setCell ⟨Y,3,none⟩ u3).heap[Y]? = some (.cells #[u0,u1,u2,u3] 27 (0,0)) /\
  (∀(B:Nat) (w0:World),B<=X->B<=Y->Below B w0 W->Below B w0 (((((((W.setCell ⟨X,0,none⟩ v0).setCell ⟨X,1,none⟩ v1).setCell ⟨X,2,none⟩ v2).setCell ⟨Y,0,none⟩ u0).setCell ⟨Y,1,none⟩ u1).setCell ⟨Y,2,none⟩ u2).setCell ⟨Y,3,none⟩ u3)) /\
  (Nz<=X->Nz<=Y->∀(p1:Option Addr) (q1 r1:Nat) (p2:Option Addr) (q2 r2:Nat) (x:aj),bF Nz W p1 q1 r1 p2 q2 r2 x->bF Nz (((((((W.setCell ⟨X,0,none⟩ v0).setCell ⟨X,1,none⟩ v1).setCell ⟨X,2,none⟩ v2).setCell ⟨Y,0,none⟩ u0).setCell ⟨Y,1,none⟩ u1).setCell ⟨Y,2,none⟩ u2).setCell ⟨Y,3,none⟩ u3) p1 q1 r1 p2 q2 r2 x):=by
 obtain⟨g1,g2⟩:=A5 hX v0 v1 v2
 have hY':=(g2 Y (Ne.symm hXY)).trans hY
 obtain⟨g3,g4⟩:=qS hY' u0 u1 u2 u3
 refine⟨hY',g2,(g4 X hXY).trans g1,g3,fun B w0 h1 h2 h => ?_,fun h1 h2 _ _ _ _ _ _ x hx => ?_⟩
 ·exact((((((h.setCell (p:=⟨X,0,none⟩) h1 _).setCell (p:=⟨X,1,none⟩) h1 _).setCell (p:=⟨X,2,none⟩) h1 _).setCell (p:=⟨Y,0,none⟩) h2 _).setCell (p:=⟨Y,1,none⟩) h2 _).setCell (p:=⟨Y,2,none⟩) h2 _).setCell (p:=⟨Y,3,none⟩) h2 _
 ·exact(hx.box h1 hX (by decide) (by simp) (fun b _ hb=>g2 b hb)).box h2 hY' (by decide) (by simp) (fun b _ hb=>g4 b hb)
theorem lk.len {w W:World}{a:Option Addr}{n c:Nat}{mm:Int}{sy:Nat}{x:aj}{p1:Option Addr}{q1 r1:Nat}{p2:Option Addr}{q2 r2:Nat}(h:lk Nz w a n c mm sy x W p1 q1 r1 p2 q2 r2)(hNz:Nz<=w.heap.size)(s:Nat) :
  lk Nz w a n c mm s x (W.setCell ⟨w.heap.size,2,none⟩ (.int .i64 s)) p1 q1 r1 p2 q2 r2:=by
 have hO:cW w.heap.size W (W.setCell ⟨w.heap.size,2,none⟩ (.int .i64 s)):=(cW.refl _ _).setCell _ _
 exact⟨h.b.setCell (p:=⟨w.heap.size,2,none⟩) (Nat.le_refl _) _,by simpa using ax h.x0 2 (.int .i64 s),(hO _ om).trans h.x1,(hO _ om).trans h.x2,(hO _ om).trans h.x3,h.d.box hNz h.x0 (by decide) (by simp) (fun b _ hb=>hO b hb)⟩
theorem rT {w W:World}{a:Option Addr}{n c:Nat}{mm:Int}{s:Nat}{x:aj}{p1:Option Addr}{q1 r1:Nat}{p2:Option Addr}{q2 r2:Nat}{j:am}{e:Int}{p:am × aj × Int}(h:cg Nz w a n c j)(hW:Below w.heap.size w W)
  (hd:bF Nz W p1 q1 r1 p2 q2 r2 x) (hp:p=(⟨j.recs,mm,s⟩,x,e)):eG Nz (.returned (.tuple #[.agg #[.slice a n c,.int .i64 mm,.int .i64 s],.agg #[.slice p1 q1 r1,.slice p2 q2 r2,.int .i64 x.left,.bool x.stopped],.int .i64 e])) W p:=by
 subst hp
 have h':=h.below hW
 exact⟨a,n,c,p1,q1,r1,p2,q2,r2,rfl,⟨h'.recs,h'.m,h'.k,h'.f,h'.s⟩,hd⟩
end Go.Proofs.YtmflnpdmlfmcpaaGreatDoor
namespace Go.Proofs.YtmflnpdmlfmcpaaGreatDoor
open Go.RowKit
variable {Nz : Nat}
theorem zx (w:World)(u0 u1 u2:Value):Below w.heap.size w (w.alloc (.cells #[u0,u1,u2] 24))/\(w.alloc (.cells #[u0,u1,u2] 24)).heap[w.heap.size]? = some (.cells #[u0,u1,u2] 24 (0,0)):=
 ⟨(Below.refl _ w).alloc (Nat.le_refl _) _,ak _ rfl⟩
end Go.Proofs.YtmflnpdmlfmcpaaGreatDoor
namespace Go.Proofs.YtmflnpdmlfmcpaaGreatDoor
open Go.RowKit
variable {Nz : Nat}
theorem zL {a:Option Addr}{n c:Nat}{j j':am}{k:Int}{ba:Option Addr}{bn bc:Nat}{b:List UInt8}{w:World}(hNz:Nz<=w.heap.size)(h:cg Nz w a n c j)(hn:j.recs.length+1<=5000)(hbl:b.length<=100000)(hb:aN Nz w [.slice ba bn bc] b)(hd:bu j b=(j',k)) :
  Calls Tryz.prog 17 #[.agg #[.slice a n c,.int .i64 j.many,.int .i64 j.synced],.slice ba bn bc] w fun e w'=>eW Nz e w' j' k/\Below w.heap.size w w':=by
 have h1:=append_any a n c j ba bn bc b w hNz (by rw[<-h.recs.len];exact hn) (by
  obtain⟨xa,xn,xc,hv,_,_,h3,_⟩:=hb
  simp only[List.cons.injEq,and_true,Value.slice.injEq]at hv
  obtain⟨rfl,rfl,rfl⟩:=hv
  rw[<-h3.len];exact hbl) h hb
 rw[hd]at h1
 exact h1
end Go.Proofs.YtmflnpdmlfmcpaaGreatDoor
namespace Go.Proofs.YtmflnpdmlfmcpaaGreatDoor
def dG (l:List (List UInt8)):List (List UInt8)->Nat->Nat->Nat->Nat->Prop
 | [],at',last,e,z=>e=at'/\z=last
 | b::bs,at',last,e,z=>∃nx,el l at'=some (b,nx)/\last<=cw l at'/\dG l bs nx (cw l at') e z
def pB (l:List (List UInt8))(e z:Nat):Prop:=el l e=none\/cw l e<z
theorem rU {l:List (List UInt8)}{k:Nat}(h:l.length<=k):el l k=none:=lr h _ _ _
theorem zXq (l:List (List UInt8)):∀(f at' last:Nat),l.length<f+at'->∃e z,dG l (cO l f at' last) at' last e z/\pB l e z:=by
 intro f
 induction f with
 | zero=>intro at' last h;exact⟨at',last,⟨rfl,rfl⟩,.inl (rU om)⟩
 | succ f ih =>
  intro at' last h
  rw[cO]
  cases hr:el l at' with
  | none=>exact⟨at',last,⟨rfl,rfl⟩,.inl hr⟩
  | some p =>
   obtain⟨b,nx⟩:=p
   by_cases hg:cw l at'<last
   ·simp only[hg,if_true]
    exact⟨at',last,⟨rfl,rfl⟩,.inr hg⟩
   ·simp only[hg,if_false]
    obtain⟨h1,_,_⟩:=fu hr
    obtain⟨e,z,hp,hh⟩:=ih nx (cw l at') om
    exact⟨e,z,⟨nx,hr,om,hp⟩,hh⟩
theorem xB {l:List (List UInt8)}:∀(rs:List (List UInt8)) (f at' last e z:Nat),dG l rs at' last e z->pB l e z->rs.length<=f->cO l f at' last=rs:=by
 intro rs
 induction rs with
 | nil =>
  rintro f at' last e z ⟨rfl,rfl⟩ hh _
  cases f with
  | zero=>rfl
  | succ f =>
   rw[cO]
   rcases hh with h|h
   ·rw[h]
   ·cases hr:el l e with
    | none=>rfl
    | some p=>simp only[h,if_true]
 | cons b rs ih =>
  rintro f at' last e z ⟨nx,hr,hg,hp⟩ hh hf
  cases f with
  | zero=>simp at hf
  | succ f =>
   rw[cO,hr]
   simp only[show ¬cw l at'<last by omega,if_false]
   rw[ih f nx _ e z hp hh (by simpa using hf)]
theorem qd {l:List (List UInt8)}:∀(rs:List (List UInt8)) {at' last e z:Nat},dG l rs at' last e z->at'+rs.length<=e/\(at'<=l.length->e<=l.length):=by
 intro rs
 induction rs with
 | nil=>rintro at' last e z ⟨rfl,rfl⟩;exact⟨Nat.le_refl _,id⟩
 | cons b rs ih =>
  rintro at' last e z ⟨nx,hr,hg,hp⟩
  obtain⟨h1,h2,_⟩:=fu hr
  obtain⟨h3,h4⟩:=ih hp
  simp only[List.length_cons]
  exact⟨om,fun _=>h4 h2⟩
theorem rV {l rs:List (List UInt8)}{e z:Nat}(hp:dG l rs 0 0 e z)(hh:pB l e z):bN l=rs:=by
 obtain⟨h1,h2⟩:=qd rs hp
 exact xB rs _ _ _ e z hp hh (by have:=h2 (Nat.zero_le _);omega)
theorem sW (l:List (List UInt8)):∃e z,dG l (bN l) 0 0 e z/\pB l e z:=zXq l _ 0 0 om
theorem lZ {l:List (List UInt8)}:∀(rs:List (List UInt8)) {rs':List (List UInt8)} {at' last e z e' z':Nat},dG l rs at' last e z->dG l rs' e z e' z'->dG l (rs++rs') at' last e' z':=by
 intro rs
 induction rs with
 | nil=>rintro rs' at' last e z e' z' ⟨rfl,rfl⟩ h;exact h
 | cons b rs ih =>
  rintro rs' at' last e z e' z' ⟨nx,hr,hg,hp⟩ h
  exact⟨nx,hr,hg,ih hp h⟩
theorem sX {g:Nat}:∀(L L':List (List UInt8)) {k nx:Nat} {first:Bool} {acc b:List UInt8},du g L k first acc=some (b,nx)->L'.take (nx-k)=L.take (nx-k)->du g L' k first acc=some (b,nx):=by
 intro L
 induction L with
 | nil=>intro L' k nx first acc b h;cases h
 | cons s rest ih =>
  intro L' k nx first acc b h ht
  obtain⟨h1,_,_⟩:=nR h
  obtain⟨m,hm⟩:∃m,nx-k=m+1:=⟨nx-k-1,om⟩
  rw[hm]at ht
  cases L' with
  | nil=>simp at ht
  | cons s' rest' =>
   simp only[List.take_succ_cons,List.cons.injEq]at ht
   obtain⟨rfl,ht⟩:=ht
   rw[du]at h ⊢
   split at h
   ·rename_i hg
    rw[if_pos hg]
    split at h
    ·rename_i h2
     rw[if_pos h2]
     exact h
    ·rename_i h2
     rw[if_neg h2]
     refine ih rest' h ?_
     rw[show nx-(k+1)=m by omega]
     exact ht
   ·cases h
theorem xC {l l':List (List UInt8)}{n i:Nat}(h:l'.take n=l.take n)(hi:i<n):l'[i]? = l[i]? := by
 have h1:=congrArg (fun x=>x[i]?) h
 simpa[List.getElem?_take,hi] using h1
theorem mY {l l':List (List UInt8)}{n at':Nat}(h:l'.take n=l.take n)(hn:at'<n):cw l' at'=cw l at':=by
 unfold cw
 rw[List.getD_eq_getElem?_getD,List.getD_eq_getElem?_getD,xC h hn]
theorem uV {l l':List (List UInt8)}{at' nx:Nat}{b:List UInt8}(h:el l at'=some (b,nx))(ht:l'.take nx=l.take nx):el l' at'=some (b,nx):=by
 obtain⟨h1,h2,_⟩:=fu h
 unfold el at h ⊢
 rw[mY ht h1]
 refine sX _ _ h ?_
 rw[<-List.drop_take,<-List.drop_take,ht]
theorem dG.local {l l':List (List UInt8)}:∀(rs:List (List UInt8)) {at' last e z:Nat},dG l rs at' last e z->l'.take e=l.take e->dG l' rs at' last e z:=by
 intro rs
 induction rs with
 | nil=>intro at' last e z h _;exact h
 | cons b rs ih =>
  rintro at' last e z ⟨nx,hr,hg,hp⟩ ht
  obtain⟨h1,h2,_⟩:=fu hr
  obtain⟨h3,_⟩:=qd rs hp
  have ht2:l'.take nx=l.take nx:=by
   have:=congrArg (List.take nx) ht
   rwa [List.take_take,List.take_take,show min nx e=nx by omega]at this
  have hga:cw l' at'=cw l at':=mY ht2 h1
  exact⟨nx,uV hr ht2,by rw[hga];exact hg,by rw[hga];exact ih hp ht⟩
theorem uW (g k kind:Nat){p:List UInt8}(hp:p.length<=112):xZ (eK g k kind p) (bD g 4) (bD (ne (eh k kind p)) 4) (bD k 2) (UInt8.ofNat kind) (UInt8.ofNat p.length) p (List.replicate (112-p.length) 0) (bD g 4):=by
 have h1:(UInt8.ofNat p.length).toNat=p.length:=by simp;omega
 exact⟨by simp[eK,eh],bo _ _,bo _ _,bo _ _,h1.symm,by rw[h1];simp,bo _ _,by rw[h1];exact hp⟩
theorem fk (g k kind:Nat){p:List UInt8}(hp:p.length<=112)(hk:kind<256)(hg:g<4294967296) :
  bH (eK g k kind p)=g/\cQ (eK g k kind p)=g/\bq (eK g k kind p)=kind/\an (eK g k kind p)=p.length/\bC (eK g k kind p)=p:=by
 obtain⟨f1,f2,f3,f4,f5,f6,f7,f8,f9⟩:=(uW g k kind hp).fields
 refine⟨?_,?_,?_,?_,f7⟩
 ·rw[bH,f1,nP];omega
 ·rw[cQ,f9,nP];omega
 ·rw[f5];simp;omega
 ·rw[f6];simp;omega
theorem oT (g k kind:Nat){p:List UInt8}(hp:p.length<=112)(hk:kind<=3)(h0:0<g)(hg:g<4294967296)(h1:2<=kind\/112<=p.length)(h2:kind%2=1\/p.length≠0):cr (eK g k kind p) k=true:=by
 obtain⟨f1,f2,f3,f4,f5⟩:=fk g k kind hp om hg
 unfold cr cE
 rw[f1,f3,f4,f5]
 simp only[Bool.and_eq_true,Bool.or_eq_true,Bool.not_eq_true',decide_eq_true_eq,decide_eq_false_iff_not]
 exact⟨⟨⟨⟨⟨hp,hk⟩,h1⟩,h2⟩,h0⟩,trivial⟩
theorem oU {s:List UInt8}{k:Nat}(h:cr s k=true):(bC s).length=an s/\an s<=112/\bq s<=3/\(2<=bq s\/112<=an s)/\(bq s%2=1\/an s≠0)/\0<bH s/\s=eK (bH s) k (bq s) (bC s):=by
 unfold cr cE at h
 simp only[Bool.and_eq_true,Bool.or_eq_true,Bool.not_eq_true',decide_eq_true_eq,decide_eq_false_iff_not]at h
 obtain⟨⟨⟨⟨⟨h1,h2⟩,h3⟩,h4⟩,h5⟩,h6⟩:=h
 refine⟨?_,h1,h2,h3,h4,h5,h6⟩
 have hp:(bC s).length<=112:=by simp[bC];omega
 have hl:=jT (bH s) k (bq s) hp
 rw[<-h6]at hl
 simp[bC,hl]
 omega
theorem xD {s:List UInt8}{k:Nat}(h:cr s k=true)(hg:bH s<4294967296):cQ s=bH s:=by
 obtain⟨h1,h2,h3,h4,h5,h6,h7⟩:=oU h
 have:=(fk (bH s) k (bq s) (p:=bC s) om om hg).2.1
 rw[<-h7]at this
 exact this
theorem uX {g:Nat}:∀(L:List (List UInt8)) {k nx:Nat} {first:Bool} {acc b:List UInt8},du g L k first acc=some (b,nx)->∃p,b=acc++p/\nx=k+bd p.length/\(first=false->0<p.length):=by
 intro L
 induction L with
 | nil=>intro k nx first acc b h;cases h
 | cons s rest ih =>
  intro k nx first acc b h
  rw[du]at h
  split at h
  ·rename_i hg
   simp only[Bool.and_eq_true,decide_eq_true_eq,beq_iff_eq]at hg
   obtain⟨⟨hgood,hf⟩,_⟩:=hg
   obtain⟨q1,q2,q3,q4,q5,q6,q7⟩:=oU hgood
   split at h
   ·rename_i h2
    simp only[Option.some.injEq,Prod.mk.injEq]at h
    obtain⟨rfl,rfl⟩:=h
    refine⟨bC s,rfl,?_,?_⟩
    ·rw[q1];unfold bd;omega
    ·rintro rfl
     simp only[decide_eq_false_iff_not]at hf
     omega
   ·obtain⟨p,rfl,rfl,hp⟩:=ih h
    refine⟨bC s++p,by simp,?_,?_⟩
    ·have:=hp rfl
     rw[List.length_append,q1]
     unfold bd
     omega
    ·intro _
     have:=hp rfl
     rw[List.length_append]
     omega
  ·cases h
theorem xE {l:List (List UInt8)}{at' nx:Nat}{b:List UInt8}(h:el l at'=some (b,nx)):nx=at'+bd b.length:=by
 obtain⟨p,rfl,h2,_⟩:=uX _ h
 simpa using h2
theorem uY {l:List (List UInt8)}:∀(rs:List (List UInt8)) {at' last e z:Nat},dG l rs at' last e z->e=at'+au rs:=by
 intro rs
 induction rs with
 | nil=>rintro at' last e z ⟨rfl,rfl⟩;simp[au]
 | cons b rs ih =>
  rintro at' last e z ⟨nx,hr,hg,hp⟩
  have h1:=xE hr
  have h2:=ih hp
  simp only[au,List.map_cons,List.sum_cons]at h2 ⊢
  omega
theorem BZ {l:List (List UInt8)}{g at':Nat}{b:List UInt8}(h0:0<g)(hg:g<4294967296)(h:∀k,k<bd b.length->l[at'+k]? = some (cl g at' b k)):∀m k:Nat,k+m=bd b.length->0<m->du g (l.drop (at'+k)) (at'+k) (decide (k=0)) (b.take (112*k))=some (b,at'+bd b.length):=by
 intro m
 induction m with
 | zero=>intro k _ h;omega
 | succ m ih =>
  intro k hk _
  have hs:=h k om
  have hpl:=ip b k
  obtain⟨f1,f2,f3,f4,f5⟩:=fk g (at'+k) (dg (decide (k=0)) (decide (k+1=bd b.length))) (p:=dM b k) (fb b k) (by unfold dg;split<;>split<;>omega) hg
  have htk:b.take (112*k)++dM b k=b.take (112*(k+1)):=by
   rw[dM,Nat.mul_add,List.take_add]
  have hgood:cr (cl g at' b k) (at'+k)=true:=by
   refine oT _ _ _ (fb b k) (by unfold dg;split<;>split<;>omega) h0 hg ?_ ?_
   ·unfold dg
    by_cases h1:k+1=bd b.length
    ·left;simp[h1]
    ·right;rw[hpl];unfold bd at h1 hk;omega
   ·by_cases h1:k=0
    ·left;unfold dg;subst h1;simp;split<;>omega
    ·right;rw[hpl];unfold bd at hk;omega
  have hkind:decide (bq (cl g at' b k)%2=1)=decide (k=0):=by
   rw[show bq (cl g at' b k)=_ from f3]
   unfold dg
   by_cases h1:k=0
   ·subst h1;simp;split<;>omega
   ·simp[h1];split<;>omega
  have hc:(cr (cl g at' b k) (at'+k) && (decide (bq (cl g at' b k)%2=1) == decide (k=0)) && decide (bH (cl g at' b k)=g))=true:=by
   rw[hgood,hkind,show bH (cl g at' b k)=g from f1]
   simp
  by_cases h1:k+1=bd b.length
  ·rw[nQ hs g _ _ hc (by rw[show bq (cl g at' b k)=_ from f3];unfold dg;simp[h1])]
   rw[show bC (cl g at' b k)=_ from f5,htk,List.take_of_length_le (by unfold bd at h1;omega)]
   rw[<-h1];rfl
  ·rw[kE hs g _ _ hc (by rw[show bq (cl g at' b k)=_ from f3];unfold dg;simp[h1];split<;>omega)]
   rw[show bC (cl g at' b k)=_ from f5,htk]
   have:=ih (k+1) om om
   rw[show decide (k+1=0)=false by simp]at this
   exact this
theorem rW {l:List (List UInt8)}{g at':Nat}{b:List UInt8}(hg:g<4294967296)(h:l[at']? = some (cl g at' b 0)):cw l at'=g:=by
 unfold cw
 rw[List.getD_eq_getElem?_getD,h]
 exact(fk g (at'+0) _ (p:=dM b 0) (fb b 0) (by unfold dg;split<;>split<;>omega) hg).1
theorem nF (n:Nat):0<bd n:=by unfold bd;omega
theorem rX {l:List (List UInt8)}{g at':Nat}{b:List UInt8}(h0:0<g)(hg:g<4294967296)(h:∀k,k<bd b.length->l[at'+k]? = some (cl g at' b k)):el l at'=some (b,at'+bd b.length)/\cw l at'=g:=by
 have h1:cw l at'=g:=rW hg (h 0 (nF _))
 refine⟨?_,h1⟩
 unfold el
 rw[h1]
 have:=BZ h0 hg h (bd b.length) 0 om (nF _)
 simpa using this
theorem A6 {l:List (List UInt8)}{g at' m:Nat}{b:List UInt8}(h0:0<g)(hg:g<4294967296)(h:∀k,k<m->l[at'+k]? = some (cl g at' b k))(hm:m<bd b.length)(hbad:∀s,l[at'+m]? = some s->cr s (at'+m)=false):el l at'=none:=by
 have gen:∀n k:Nat,k+n=m->∀g' first acc,(0<m->g'=g)->(first=decide (k=0))->du g' (l.drop (at'+k)) (at'+k) first acc=none:=by
  intro n
  induction n with
  | zero =>
   intro k hk g' first acc _ _
   obtain rfl:k=m:=om
   cases hs:l[at'+k]? with
   | none=>exact lr (by simpa using hs) _ _ _
   | some s=>exact pG hs _ _ _ (by rw[hbad s hs];rfl)
  | succ n ih =>
   rintro k hk g' first acc hgg rfl
   obtain rfl:=hgg om
   have hs:=h k om
   have hpl:=ip b k
   obtain⟨f1,f2,f3,f4,f5⟩:=fk g' (at'+k) (dg (decide (k=0)) (decide (k+1=bd b.length))) (p:=dM b k) (fb b k) (by unfold dg;split<;>split<;>omega) hg
   have hne:decide (k+1=bd b.length)=false:=by simp;omega
   have hgood:cr (cl g' at' b k) (at'+k)=true:=by
    refine oT _ _ _ (fb b k) (by unfold dg;split<;>split<;>omega) h0 hg ?_ ?_
    ·right;rw[hpl];unfold bd at hm;omega
    ·right;rw[hpl];unfold bd at hm;omega
   have hkind:decide (bq (cl g' at' b k)%2=1)=decide (k=0):=by
    rw[show bq (cl g' at' b k)=_ from f3]
    unfold dg
    by_cases h1:k=0
    ·subst h1;simp;split<;>omega
    ·simp[h1];split<;>omega
   have hc:(cr (cl g' at' b k) (at'+k) && (decide (bq (cl g' at' b k)%2=1) == decide (k=0)) && decide (bH (cl g' at' b k)=g'))=true:=by
    rw[hgood,hkind,show bH (cl g' at' b k)=g' from f1]
    simp
   rw[kE hs g' _ _ hc (by rw[show bq (cl g' at' b k)=_ from f3];unfold dg;rw[hne];simp;split<;>omega)]
   exact ih (k+1) om g' _ _ (fun _=>rfl) (by simp)
 unfold el
 have:=gen m 0 om (cw l at') true [] (fun hm0=>rW hg (h 0 hm0)) (by simp)
 simpa using this
def eE (g:Nat):Nat->List (List UInt8)->List (List UInt8)
 | _,[]=>[]
 | at',b::bs=>(List.range (bd b.length)).map (cl g at' b)++eE g (at'+bd b.length) bs
theorem eF (b:List UInt8)(bs:List (List UInt8)):au (b::bs)=bd b.length+au bs:=by simp[au]
theorem rY (g:Nat):∀(bs:List (List UInt8)) (at':Nat),(eE g at' bs).length=au bs:=by
 intro bs
 induction bs with
 | nil=>intro _;rfl
 | cons b bs ih=>intro at';rw[eE,eF,List.length_append,ih];simp
theorem k7 {g at':Nat}{b:List UInt8}{bs:List (List UInt8)}{k:Nat}(h:k<bd b.length):(eE g at' (b::bs))[k]? = some (cl g at' b k):=by
 rw[eE,List.getElem?_append_left (by simpa using h)]
 simp[h]
theorem oV {g at':Nat}{b:List UInt8}{bs:List (List UInt8)}(i:Nat):(eE g at' (b::bs))[bd b.length+i]? = (eE g (at'+bd b.length) bs)[i]? := by
 rw[eE,List.getElem?_append_right (by simp)]
 simp
theorem uZ {l:List (List UInt8)}{g:Nat}(h0:0<g)(hg:g<4294967296):∀(bs:List (List UInt8)) (at' last:Nat),last<=g->(∀i,i<au bs->l[at'+i]? = (eE g at' bs)[i]?)->dG l bs at' last (at'+au bs) (if bs=[] then last else g):=by
 intro bs
 induction bs with
 | nil=>intro at' last _ _;exact⟨by simp[au],rfl⟩
 | cons b bs ih =>
  intro at' last hl h
  rw[eF]at h ⊢
  obtain⟨h1,h2⟩:=rX (l:=l) (at':=at') (b:=b) h0 hg (fun k hk=>(h k om).trans (k7 hk))
  refine⟨_,h1,by rw[h2];exact hl,?_⟩
  have:=ih (at'+bd b.length) g (Nat.le_refl _) (fun i hi=>by
   have h3:=h (bd b.length+i) om
   rw[oV,<-Nat.add_assoc]at h3
   exact h3)
  rw[h2,<-Nat.add_assoc]
  simpa using this
theorem xF {l:List (List UInt8)}{g:Nat}(h0:0<g)(hg:g<4294967296):∀(bs:List (List UInt8)) (at' last L:Nat),last<=g->L<au bs->(∀i,i<L->l[at'+i]? = (eE g at' bs)[i]?)->(∀s,l[at'+L]? = some s->cr s (at'+L)=false) ->
  ∃m z,m<bs.length/\au (bs.take m)<=L/\L<au (bs.take (m+1))/\dG l (bs.take m) at' last (at'+au (bs.take m)) z/\pB l (at'+au (bs.take m)) z:=by
 intro bs
 induction bs with
 | nil=>intro at' last L _ h;simp[au]at h
 | cons b bs ih =>
  intro at' last L hl hL h hbad
  rw[eF]at hL
  by_cases hb:L<bd b.length
  ·refine⟨0,last,by simp,by simp[au],by simpa[au] using hb,⟨by simp[au],rfl⟩,.inl ?_⟩
   have:=A6 (l:=l) (at':=at') (b:=b) h0 hg (fun k hk=>(h k hk).trans (k7 om)) hb hbad
   simpa[au] using this
  ·obtain⟨L',rfl⟩:∃L',L=bd b.length+L':=⟨L-bd b.length,om⟩
   obtain⟨h1,h2⟩:=rX (l:=l) (at':=at') (b:=b) h0 hg (fun k hk=>(h k om).trans (k7 hk))
   obtain⟨m,z,m1,m2,m3,m4,m5⟩:=ih (at'+bd b.length) g L' (Nat.le_refl _) om (fun i hi=>by
    have h3:=h (bd b.length+i) om
    rw[oV,<-Nat.add_assoc]at h3
    exact h3) (fun s hs=>by
     rw[Nat.add_assoc]at hs ⊢
     exact hbad s hs)
   refine⟨m+1,z,by simpa using m1,?_,?_,?_,?_⟩
   ·rw[List.take_succ_cons,eF];omega
   ·rw[List.take_succ_cons,eF];omega
   ·rw[List.take_succ_cons,eF,<-Nat.add_assoc]
    exact⟨_,h1,by rw[h2];exact hl,by rw[h2];exact m4⟩
   ·rw[List.take_succ_cons,eF,<-Nat.add_assoc]
    exact m5
theorem pC {l:List (List UInt8)}{b:List UInt8}(h:b ∈ l):bH b<=cz l/\cQ b<=cz l:=by
 have gen:∀(l:List (List UInt8)) (z:Nat),z<=l.foldl (fun z b=>max z (max (bH b) (cQ b))) z/\∀b ∈ l,bH b<=l.foldl (fun z b=>max z (max (bH b) (cQ b))) z/\cQ b<=l.foldl (fun z b=>max z (max (bH b) (cQ b))) z:=by
  intro l
  induction l with
  | nil=>intro z;exact⟨Nat.le_refl _,fun b hb=>(by cases hb)⟩
  | cons c l ih =>
   intro z
   obtain⟨h1,h2⟩:=ih (max z (max (bH c) (cQ c)))
   simp only[List.foldl_cons]
   refine⟨om,fun b hb => ?_⟩
   rcases List.mem_cons.1 hb with rfl|hb
   ·omega
   ·exact h2 b hb
 exact(gen l 0).2 b h
theorem tN {l:List (List UInt8)}{z:Nat}(h:∀b ∈ l,bH b<=z/\cQ b<=z):cz l<=z:=by
 have gen:∀(l:List (List UInt8)) (y:Nat),y<=z->(∀b ∈ l,bH b<=z/\cQ b<=z)->l.foldl (fun z b=>max z (max (bH b) (cQ b))) y<=z:=by
  intro l
  induction l with
  | nil=>intro y hy _;exact hy
  | cons c l ih =>
   intro y hy h
   have:=h c List.mem_cons_self
   exact ih _ (by show max y (max (bH c) (cQ c))<=z;omega) (fun b hb=>h b (List.mem_cons_of_mem _ hb))
 exact gen l 0 (Nat.zero_le _) h
theorem xG {l:List (List UInt8)}:∀(rs:List (List UInt8)) {at' last e z:Nat},dG l rs at' last e z->z<=max last (cz l):=by
 intro rs
 induction rs with
 | nil=>rintro at' last e z ⟨rfl,rfl⟩;omega
 | cons b rs ih =>
  rintro at' last e z ⟨nx,hr,hg,hp⟩
  have h1:=ih hp
  obtain⟨h2,h3,_⟩:=fu hr
  have:cw l at'<=cz l:=by
   unfold cw
   rw[List.getD_eq_getElem?_getD,List.getElem?_eq_getElem om]
   exact(pC (List.getElem_mem _)).1
  omega
def ff : Nat->List (List UInt8)->List (Int × List UInt8)
 | _,[]=>[]
 | p,s::l=>(((p:Nat):Int),s)::ff (p+1) l
theorem oW (l l':List (List UInt8)):∀p,ff p (l++l')=ff p l++ff (p+l.length) l':=by
 induction l with
 | nil=>intro p;rfl
 | cons s l ih=>intro p;simp only[List.cons_append,ff,ih,List.length_cons];rw[show p+1+l.length=p+(l.length+1) by omega]
theorem DF (l:List (List UInt8)):∀p,(ff p l).length=l.length:=by
 induction l with
 | nil=>intro p;rfl
 | cons s l ih=>intro p;simp[ff,ih]
theorem A7 (l:List (List UInt8)):∀p i,(ff p l)[i]? = (l[i]?).map fun s=>(((p+i:Nat):Int),s):=by
 induction l with
 | nil=>intro p i;rfl
 | cons s l ih =>
  intro p i
  cases i with
  | zero=>rfl
  | succ i =>
   simp only[ff,List.getElem?_cons_succ,ih]
   rw[show p+1+i=p+(i+1) by omega]
theorem zr (l:List (List UInt8)):∀p n,(ff p l).take n=ff p (l.take n):=by
 induction l with
 | nil=>intro p n;simp[ff]
 | cons s l ih =>
  intro p n
  cases n with
  | zero=>rfl
  | succ n=>simp only[ff,List.take_succ_cons,ih]
theorem sY : ∀(l s:List (List UInt8)) (p:Nat),p+l.length<=s.length->∀i,(a9 s (ff p l))[i]? = if p<=i/\i<p+l.length then l[i-p]? else s[i]? := by
 intro l
 induction l with
 | nil=>intro s p h i;rw[if_neg (by simp)];rfl
 | cons x l ih =>
  intro s p h i
  simp only[List.length_cons]at h ⊢
  have h1:=ih (s.set p x) (p+1) (by simp;omega) i
  have h2:a9 s (ff p (x::l))=a9 (s.set p x) (ff (p+1) l):=by
   simp only[a9,ff,List.foldl_cons]
   rw[show ((p:Nat):Int).toNat=p by omega]
  rw[h2,h1]
  by_cases hi:i=p
  ·subst hi
   rw[if_neg om,if_pos om,List.getElem?_set_self om,Nat.sub_self]
   rfl
  ·rw[List.getElem?_set_ne om]
   by_cases h3:p+1<=i/\i<p+1+l.length
   ·rw[if_pos h3,if_pos om,show i-p=(i-(p+1))+1 by omega]
    rfl
   ·rw[if_neg h3,if_neg om]
theorem zt {b:List UInt8}(h:b.length=128):gO b=b:=by simp[gO,h]
theorem xH (d:aj)(g at':Nat)(b:List UInt8)(k:Nat):(dy d g at' b k).pend=d.pend++ff at' ((List.range k).map (cl g at' b)):=by
 induction k with
 | zero=>simp[dy,ff]
 | succ k ih =>
  show (dy d g at' b k).pend++[(((at'+k:Nat):Int),gO (cl g at' b k))]=_
  rw[ih,zt (fM _ _ _ _),List.range_succ,List.map_append,oW]
  simp[ff]
theorem DG (g:Nat):∀(l:List (List UInt8)) (d:aj) (at':Nat),(bB g d at' l).pend=d.pend++ff at' (eE g at' l):=by
 intro l
 induction l with
 | nil=>intro d at';simp[bB,eE,ff]
 | cons b l ih =>
  intro d at'
  rw[bB,ih,xH,eE,oW]
  simp
structure d7 (d:aj)(pre post:List (List UInt8))(G:Nat):Prop where
 runs:d.runs=true
 pend:d.pend=[]
 recs:bN d.secs=pre
 top:cz d.secs+1=G
 gen:G<4294967296
 room:au pre+au post<=d.secs.length
def iI (pre post:List (List UInt8))(G:Nat):List (List UInt8):=eE G (au pre) post
theorem j7 (pre post:List (List UInt8))(G:Nat):(iI pre post G).length=au post:=rY _ _ _
theorem jo {pre post:List (List UInt8)}{G:Nat}(hg:G<4294967296){s:List UInt8}(h:s ∈ iI pre post G):bH s=G/\cQ s=G/\s.length=128:=by
 have gen:∀(bs:List (List UInt8)) (at':Nat),∀s ∈ eE G at' bs,bH s=G/\cQ s=G/\s.length=128:=by
  intro bs
  induction bs with
  | nil=>intro _ s hs;cases hs
  | cons b bs ih =>
   intro at' s hs
   rw[eE,List.mem_append]at hs
   rcases hs with hs|hs
   ·obtain⟨k,_,rfl⟩:=List.mem_map.1 hs
    obtain⟨f1,f2,_⟩:=fk G (at'+k) (dg (decide (k=0)) (decide (k+1=bd b.length))) (p:=dM b k) (fb b k) (by unfold dg;split<;>split<;>omega) hg
    exact⟨f1,f2,fM _ _ _ _⟩
   ·exact ih _ _ hs
 exact gen _ _ s h
def eH (d:aj)(pre post:List (List UInt8))(G L:Nat):List (List UInt8):=a9 d.secs (ff (au pre) ((iI pre post G).take L))
theorem gA (d:aj)(pre post:List (List UInt8))(G L:Nat):(eH d pre post G L).length=d.secs.length:=fq _ _
theorem d7.at_ {d:aj}{pre post:List (List UInt8)}{G:Nat}(h:d7 d pre post G)(L i:Nat)(hL:L<=au post):(eH d pre post G L)[i]? = if au pre<=i/\i<au pre+L then (iI pre post G)[i-au pre]? else d.secs[i]? := by
 have hl:((iI pre post G).take L).length=L:=by rw[List.length_take,j7];omega
 unfold eH
 rw[sY _ _ _ (by rw[hl];have:=h.room;omega),hl]
 by_cases hi:au pre<=i/\i<au pre+L
 ·rw[if_pos hi,if_pos hi,List.getElem?_take,if_pos om]
 ·rw[if_neg hi,if_neg hi]
theorem oX {α:Type}{l l':List α}{n:Nat}(h:∀i,i<n->l'[i]? = l[i]?):l'.take n=l.take n:=by
 apply List.ext_getElem?
 intro i
 rw[List.getElem?_take,List.getElem?_take]
 split
 ·exact h i ‹_›
 ·rfl
theorem d7.parse {d:aj}{pre post:List (List UInt8)}{G:Nat}(h:d7 d pre post G):∃z,dG d.secs pre 0 0 (au pre) z/\z<G/\pB d.secs (au pre) z:=by
 obtain⟨e,z,hp,hh⟩:=sW d.secs
 rw[h.recs]at hp
 have h1:=uY _ hp
 have h2:=xG _ hp
 have h3:=h.top
 obtain rfl:e=au pre:=om
 exact⟨z,hp,om,hh⟩
theorem d7.old {d:aj}{pre post:List (List UInt8)}{G:Nat}(h:d7 d pre post G){s:List UInt8}(hs:s ∈ d.secs):bH s<G/\cQ s<G:=by
 have h1:=pC hs
 have h2:=h.top
 omega
theorem d7.full {d:aj}{pre post:List (List UInt8)}{G:Nat}(h:d7 d pre post G):bN (eH d pre post G (au post))=pre++post:=by
 obtain⟨z,hp,hz,hh⟩:=h.parse
 have hat:=fun i=>h.at_ (au post) i (Nat.le_refl _)
 have hp1:dG (eH d pre post G (au post)) pre 0 0 (au pre) z:=dG.local _ hp (oX fun i hi=>by rw[hat,if_neg om])
 have hp2:=uZ (l:=eH d pre post G (au post)) (by have:=h.top;omega) h.gen post (au pre) z om (fun i hi=>by
  rw[hat,if_pos om,show au pre+i-au pre=i by omega];rfl)
 refine rV (lZ _ hp1 hp2) ?_
 by_cases hpost:post=[]
 ·subst hpost
  have he:eH d pre [] G (au [])=d.secs:=by
   simp[eH,iI,eE,ff,a9]
  rw[he]
  simpa[au] using hh
 ·rw[if_neg hpost]
  cases hs:(eH d pre post G (au post))[au pre+au post]? with
  | none=>exact .inl (rU (by simpa using hs))
  | some s =>
   right
   unfold cw
   rw[List.getD_eq_getElem?_getD,hs]
   rw[hat,if_neg om]at hs
   exact(h.old (List.mem_of_getElem? hs)).1
def iR (n o:List UInt8):List UInt8:=n.take 64++o.drop 64
theorem mZ {n o:List UInt8}(hn:n.length=128):bH (iR n o)=bH n/\cQ (iR n o)=cQ o:=by
 unfold bH cQ iR
 constructor
 ·rw[List.take_append_of_le_length (by simp;omega),List.take_take];rfl
 ·rw[List.drop_append,List.drop_eq_nil_of_le (by simp;omega),List.drop_drop,List.nil_append]
  congr 2
  simp
  omega
theorem d7.cut {d:aj}{pre post l:List (List UInt8)}{G L:Nat}(h:d7 d pre post G)(hL:L<au post)(hl:∀i,i<au pre+L->l[i]? = (eH d pre post G L)[i]?)(hbad:∀s,l[au pre+L]? = some s->cr s (au pre+L)=false) :
  ∃m,m<post.length/\au (post.take m)<=L/\L<au (post.take (m+1))/\bN l=pre++post.take m:=by
 obtain⟨z,hp,hz,_⟩:=h.parse
 have hat:=fun i=>h.at_ L i om
 have hp1:dG l pre 0 0 (au pre) z:=dG.local _ hp (oX fun i hi=>by rw[hl i om,hat,if_neg om])
 obtain⟨m,z',m1,m2,m3,m4,m5⟩:=xF (l:=l) (by have:=h.top;omega) h.gen post (au pre) z L om hL (fun i hi=>by
  rw[hl _ om,hat,if_pos om,show au pre+i-au pre=i by omega];rfl) hbad
 exact⟨m,m1,m2,m3,rV (lZ _ hp1 m4) m5⟩
theorem d7.torn {d:aj}{pre post:List (List UInt8)}{G L:Nat}(h:d7 d pre post G)(hL:L<au post) :
  ∃n o m,(iI pre post G)[L]? = some n/\d.secs[au pre+L]? = some o/\(eH d pre post G L)[au pre+L]? = some o/\m<post.length/\bN ((eH d pre post G L).set (au pre+L) (iR n o))=pre++post.take m:=by
 have hn:L<(iI pre post G).length:=by rw[j7];exact hL
 have hroom:=h.room
 have ho:au pre+L<d.secs.length:=om
 have hoo:(eH d pre post G L)[au pre+L]? = d.secs[au pre+L]? := by rw[h.at_ L _ om,if_neg om]
 have hN:=jo h.gen (List.getElem_mem hn)
 have hO:=h.old (List.getElem_mem ho)
 obtain⟨f1,f2⟩:=mZ (o:=d.secs[au pre+L]) hN.2.2
 obtain⟨m,m1,_,_,m4⟩:=h.cut (l:=(eH d pre post G L).set (au pre+L) (iR (iI pre post G)[L] d.secs[au pre+L])) hL (fun i hi=>by rw[List.getElem?_set_ne om]) (fun s hs=>by
  rw[List.getElem?_set_self (by rw[gA];exact ho)]at hs
  cases hs
  cases hg:cr (iR (iI pre post G)[L] d.secs[au pre+L]) (au pre+L) with
  | false=>rfl
  | true =>
   have h1:=xD hg (by rw[f1,hN.1];exact h.gen)
   rw[f1,f2,hN.1]at h1
   omega)
 exact⟨_,_,m,List.getElem?_eq_getElem hn,List.getElem?_eq_getElem ho,hoo.trans (List.getElem?_eq_getElem ho),m1,m4⟩
theorem d7.top_put {d:aj}{pre post:List (List UInt8)}{G L:Nat}(h:d7 d pre post G)(hL:L<=au post):cz (eH d pre post G L)<=G:=by
 refine tN fun b hb => ?_
 obtain⟨i,hi⟩:=List.mem_iff_getElem?.1 hb
 rw[h.at_ L i hL]at hi
 split at hi
 ·have:=jo h.gen (List.mem_of_getElem? hi);omega
 ·have:=h.old (List.mem_of_getElem? hi);omega
theorem d7.top_torn {d:aj}{pre post:List (List UInt8)}{G L p:Nat}{n o:List UInt8}(h:d7 d pre post G)(hL:L<=au post)(hn:(iI pre post G)[L]? = some n)(ho:d.secs[p]? = some o):cz ((eH d pre post G L).set p (iR n o))<=G:=by
 have hN:=jo h.gen (List.mem_of_getElem? hn)
 have hO:=h.old (List.mem_of_getElem? ho)
 obtain⟨f1,f2⟩:=mZ (o:=o) hN.2.2
 refine tN fun b hb => ?_
 rcases List.mem_or_eq_of_mem_set hb with hb|rfl
 ·have:=h.top_put hL
  have:=pC hb
  omega
 ·rw[f1,f2];omega
def cN (j:am):List (List UInt8)->am
 | []=>j
 | b::bs=>cN (if (bu j b).2=0 then (bu j b).1 else j) bs
theorem ib {j:am}(b:List UInt8)(h:j.okB=true):(bu j b=(⟨j.recs++[b],j.many,j.synced⟩,0)/\(⟨j.recs++[b],j.many,j.synced⟩:am).okB=true/\(au j.recs:Int)+bd b.length<=j.many)\/(bu j b=(.zero,2)/\j.many<(au j.recs:Int)+bd b.length):=by
 obtain⟨h1,h2,h3,h4,h5⟩:=eM h
 have hu:au (j.recs++[b])=au j.recs+bd b.length:=by simp[au]
 by_cases hlt:j.many-au j.recs<bd b.length
 ·right;exact⟨by simp[bu,h,hlt],om⟩
 ·left
  refine⟨by simp[bu,h,hlt],?_,om⟩
  simp only[am.okB,Bool.and_eq_true,decide_eq_true_eq,List.length_append,List.length_singleton,hu]
  omega
structure CE (j j':am):Prop where
 ok:j'.okB=true
 many:j'.many=j.many
 synced:j'.synced=j.synced
 ext:∃ext,j'.recs=j.recs++ext
theorem zu (l:List (List UInt8)):∀ {j:am},j.okB=true->CE j (cN j l):=by
 induction l with
 | nil=>intro j h;exact⟨h,rfl,rfl,[],by simp[cN]⟩
 | cons b l ih =>
  intro j h
  rw[cN]
  rcases ib b h with ⟨h1,h2,_⟩|⟨h1,_⟩
  ·rw[h1]
   simp only[if_true]
   obtain⟨a1,a2,a3,ext,a4⟩:=ih h2
   exact⟨a1,a2,a3,b::ext,by rw[a4];simp⟩
  ·rw[h1]
   simp only[show ¬((2:Int)=0) by decide,if_false]
   exact ih h
theorem j8 (l l':List (List UInt8)):au (l++l')=au l+au l':=by simp[au]
theorem A8 (l:List (List UInt8)):l.length<=au l:=by
 induction l with
 | nil=>simp[au]
 | cons b l ih=>have:=nF b.length;rw[eF,List.length_cons];omega
theorem A9 {j:am}(h:j.okB=true):j.recs.length<=4096:=by
 obtain⟨h1,h2,h3,h4,h5⟩:=eM h
 have:=A8 j.recs
 omega
theorem jp {d:aj}(h1:1<=d.secs.length)(h2:d.secs.length<=4096)(h3:∀b ∈ d.secs,b.length=128):d.restart.runs=true:=by
 have hs:d.secs.any eq=false:=by
  rw[List.any_eq_false]
  intro y hy
  simp[eq,h3 y hy]
 simp[aj.runs,aj.okB,aj.restart,hs,h1,h2]
theorem Ba {d:aj}{pre post:List (List UInt8)}{G L:Nat}(h:d7 d pre post G)(hL:L<=au post):∀b ∈ eH d pre post G L,b.length=128:=by
 intro b hb
 obtain⟨i,hi⟩:=List.mem_iff_getElem?.1 hb
 rw[h.at_ L i hL]at hi
 split at hi
 ·exact(jo h.gen (List.mem_of_getElem? hi)).2.2
 ·exact iT (fh h.runs).1 b (List.mem_of_getElem? hi)
theorem rZ {j:am}{d:aj}{sy G:Nat}(hok:j.okB=true)(hm:j.many=d.secs.length)(hsy:j.synced=sy)(h:d7 d (j.recs.take sy) (j.recs.drop sy) G) :
  (∃y,cC j d=(⟨j.recs,j.many,j.recs.length⟩,y,0)/\y.runs=true/\y.pend=[]/\bN y.secs=j.recs/\cz y.secs<=G/\y.secs.length=d.secs.length/\(d.left = -1->y.left = -1)) \/
  (0<=d.left/\∃y m,cC j d=(.zero,y,40)/\y.stopped=true/\y.restart.runs=true/\bN y.secs=j.recs.take m/\sy<=m/\m<=j.recs.length/\cz y.secs<=G/\y.secs.length=d.secs.length):=by
 obtain⟨hdk,hst⟩:=fh h.runs
 have hj:=eM hok
 have hl:=ng hdk
 have hb:=ls hdk
 have hpl:d.pend.length=0:=by rw[h.pend];rfl
 have h4:¬(j.many≠d.secs.length\/0<d.pend.length):=om
 have h5:¬(bN d.secs≠j.recs.take j.synced.toNat\/4294967295<cz d.secs+1):=by
  rw[hsy,Int.toNat_natCast,h.recs,h.top]
  rintro(h1|h1)
  ·exact h1 rfl
  ·have:=h.gen;omega
 by_cases hs:j.synced=j.recs.length
 ·left
  refine⟨d,by rw[oQ hok hdk hst h4 h5 hs,<-hs],h.runs,h.pend,?_,by have:=h.top;omega,rfl,id⟩
  rw[h.recs,List.take_of_length_le om]
 ·have hd:bB (cz d.secs+1) d (au (j.recs.take j.synced.toNat)) (j.recs.drop j.synced.toNat)=bB G d (au (j.recs.take sy)) (j.recs.drop sy):=by rw[hsy,Int.toNat_natCast,h.top]
  obtain⟨x,hx⟩:=zg (bB G d (au (j.recs.take sy)) (j.recs.drop sy))
  have hxs:x.secs=d.secs:=by rw[hx,lW]
  have hxl:x.left=d.left:=by rw[hx,rR]
  have hxp:x.pend=ff (au (j.recs.take sy)) (iI (j.recs.take sy) (j.recs.drop sy) G):=by rw[hx,DG,h.pend];rfl
  have hxn:x.pend.length=au (j.recs.drop sy):=by rw[hxp,DF,j7]
  have hroom:=h.room
  have hxr:x.runs=true:=by
   rw[hx]
   exact lX h.runs om om
  have hput:∀L,a9 x.secs (x.pend.take L)=eH d (j.recs.take sy) (j.recs.drop sy) G L:=by
   intro L
   rw[hxs,hxp,zr]
   rfl
  rw[<-hx]at hd
  by_cases htorn:0<=x.left/\x.left<x.pend.length
  ·right
   obtain⟨L,hL⟩:=Int.eq_ofNat_of_zero_le htorn.1
   have hLn:L<au (j.recs.drop sy):=om
   obtain⟨n,o,m,n1,n2,n3,n4,n5⟩:=h.torn hLn
   have hpg:x.pend[L]? = some (((au (j.recs.take sy)+L:Nat):Int),n):=by rw[hxp,A7,n1];rfl
   have hsync:x.sync=(⟨(eH d (j.recs.take sy) (j.recs.drop sy) G L).set (au (j.recs.take sy)+L) (iR n o),[],0,true⟩,40):=by
    unfold aj.sync
    rw[if_pos hxr,if_pos htorn]
    have e1:x.left.toNat=L:=by rw[hL];rfl
    rw[e1,hput,List.getD_eq_getElem?_getD,hpg]
    simp only[Option.getD_some,Int.toNat_natCast]
    rw[List.getD_eq_getElem?_getD,n3]
    rfl
   refine⟨om,_,sy+m,oS hok hdk hst h4 h5 hs hd hsync (by decide),rfl,?_,?_,om,?_,?_,?_⟩
   ·refine jp ?_ ?_ ?_
    ·simp only[List.length_set,gA];omega
    ·simp only[List.length_set,gA];omega
    ·intro b hb
     simp only at hb
     rcases List.mem_or_eq_of_mem_set hb with hb|rfl
     ·exact Ba h om b hb
     ·have:=(jo h.gen (List.mem_of_getElem? n1)).2.2
      have:=iT hdk o (List.mem_of_getElem? n2)
      simp[iR]
      omega
   ·simp only
    rw[n5]
    rw[List.take_add]
   ·rw[List.length_drop]at n4;omega
   ·exact h.top_torn om n1 n2
   ·simp only[List.length_set,gA]
  ·left
   have hall:a9 x.secs x.pend=eH d (j.recs.take sy) (j.recs.drop sy) G (au (j.recs.drop sy)):=by
    rw[<-hput,List.take_of_length_le om]
   have hsync:x.sync=(⟨eH d (j.recs.take sy) (j.recs.drop sy) G (au (j.recs.drop sy)),[],if 0<=x.left then x.left-x.pend.length else x.left,false⟩,0):=by
    unfold aj.sync
    rw[if_pos hxr,if_neg htorn,hall]
   obtain⟨r1,r2,_⟩:=xz hsync
   refine⟨_,oR hok hdk hst h4 h5 hs hd hsync,r1,rfl,?_,h.top_put (Nat.le_refl _),?_,?_⟩
   ·simp only
    rw[h.full,List.take_append_drop]
   ·simp only[gA]
   ·intro hl
    simp only
    rw[if_neg om]
    omega
theorem Dn {d:aj}{j:am}{sy:Nat}(hr:d.runs=true)(hp:d.pend=[])(hrec:bN d.secs=j.recs.take sy)(ht:cz d.secs+1<4294967296)(hok:j.okB=true)(hm:j.many=d.secs.length):d7 d (j.recs.take sy) (j.recs.drop sy) (cz d.secs+1):=by
 refine⟨hr,hp,hrec,rfl,ht,?_⟩
 have h:=(eM hok).2.2.2.2
 have:au j.recs=au (j.recs.take sy)+au (j.recs.drop sy):=by rw[<-j8,List.take_append_drop]
 omega
end Go.Proofs.YtmflnpdmlfmcpaaGreatDoor
namespace Go.Proofs.YtmflnpdmlfmcpaaGreatDoor
open Go.RowKit
variable {Nz : Nat}
theorem cg.box {w W:World}{a:Option Addr}{n c X:Nat}{j:am}{C:Array Value}{t:TypeId}{fr:Nat × Nat}(h:cg Nz w a n c j)(hX:Nz<=X)(hx:w.heap[X]? = some (.cells C t fr))(ht:t≠5/\t≠40/\t≠64)(hs:w.heap.size<=W.heap.size)(hW:∀b,b<w.heap.size->b≠X->W.heap[b]? = w.heap[b]?):cg Nz W a n c j:=by
 have hm:=h.m
 have hd:bF Nz w a n c none 0 0 ⟨j.recs,[],0,false⟩:=⟨h.recs,Sl.nil _ _ _ _,by unfold maxLen;omega,by unfold maxLen;omega,h.k,Nat.le_refl _,h.f,bO.zero _ _⟩
 have h2:=hd.box hX hx ht hs hW
 exact⟨h2.secs,h.m,h2.k1,h2.f1,h.s⟩
end Go.Proofs.YtmflnpdmlfmcpaaGreatDoor
namespace Go.Proofs.YtmflnpdmlfmcpaaGreatDoor
open Go.RowKit
variable {Nz : Nat}
theorem cW.keep4 {X:Nat}{w W:World}(hO:cW X w W){b:Nat}{v0 v1 v2 v3:Value}(hb:b≠X)(h:w.cell? ⟨b,0,none⟩=some v0/\w.cell? ⟨b,1,none⟩=some v1/\w.cell? ⟨b,2,none⟩=some v2/\w.cell? ⟨b,3,none⟩=some v3) :
  W.cell? ⟨b,0,none⟩=some v0/\W.cell? ⟨b,1,none⟩=some v1/\W.cell? ⟨b,2,none⟩=some v2/\W.cell? ⟨b,3,none⟩=some v3:=
 ⟨(hO.cell hb).trans h.1,(hO.cell hb).trans h.2.1,(hO.cell hb).trans h.2.2.1,(hO.cell hb).trans h.2.2.2⟩
theorem En {w W:World}{a:Option Addr}{n c:Nat}{mm:Int}{sy:Nat}{x:aj}{p1:Option Addr}{q1 r1:Nat}{p2:Option Addr}{q2 r2:Nat}(h:lk Nz w a n c mm sy x W p1 q1 r1 p2 q2 r2):W.heap[w.heap.size+1]? = some (.cells #[.slice p1 q1 r1,.slice p2 q2 r2,.int .i64 x.left,.bool x.stopped] 27 (0,0)):=h.x1
theorem Eb {w:World}{xa:Option Addr}{xn:Nat}{b:List UInt8}{k K:Nat}(h:Sl 1 ai w xa xn b)(hK:K=bd xn)(hk:k<K):112*k<=xn/\(dM b k).length=min xn (112*(k+1))-112*k:=by
 have hl:=h.len
 have:=ip b k
 unfold bd at hK
 omega
theorem DH (a:Option Addr)(n c:Nat)(j:am)(p1:Option Addr)(q1 r1:Nat)(p2:Option Addr)(q2 r2:Nat)(d:aj)(w w5:World)(sy G:Nat){u0 u1 u6 u7 u8 u10 u11 u12 u13 u14 u15 u16 u17 u18 u19 u20 u21 u22 u23 u24 u25 u26 u27 u28 u29 u30 u31 u32 u33 u34 u35 u36 u37 u38 u39 u40 u41 u42 u43 u44 u45 u46 u47 u48 u49 u50 u51 u52 u53 u54 u55 u56 u57 u58 u59 u60 u61 u62 u63 u64 u65 u66 u67 u68 u69 u70 u71 u72 u73 u74 u75 u76 u77 u78 u79 u80 u81 u82 u83 u84 u85 u86 u87 u88 u89 u90 u91 u92 u93 u94 u95 u96 u97 u98 u99 u100 u101 u102 u103 u104 u105 u106 u107 u108 u109 u110 u111 u112 u113 u114 u115 u116 u117 u118 u119 u120 u121 u122 u123 u124 u125 u126 u127 u128 u129 u130 u131 u132 u133 u134 u135 u136 u137 u138 u139 u140 u141 u142 u143 u144 u145 u146 u147 u148:Value}(hNz:Nz<=w.heap.size)(h:cg Nz w a n c j)(hsn:sy<=n)
  (hI:lk Nz w a n c j.many sy d w5 p1 q1 r1 p2 q2 r2) (hn1:d.secs.length<=100) (hok:j.okB=true) (hdk:d.okB=true) (hst:d.stopped=false) (h4:¬(j.many≠d.secs.length\/0<d.pend.length)) (hsy:j.synced=sy)
  (hG:cz d.secs+1=G) (hGl:G<=4294967295) (hrec:bN d.secs=j.recs.take sy) :
  Code.wp Tryz.prog (BY 9 (Tryz.f29.body.getD .skip)) (bodyPost Tryz.prog Tryz.f29 fun e w'=>eG Nz e w' (cC j d)/\Below w.heap.size w w') ⟨#[u0,u1,.pointer (some ⟨w.heap.size,0,none⟩),.pointer (some ⟨w.heap.size+1,0,none⟩),.pointer (some ⟨w.heap.size+1+1,0,none⟩),.pointer (some ⟨w.heap.size+1+1+1,0,none⟩),u6,u7,u8,.int .u64 G,u10,u11,u12,u13,u14,u15,u16,u17,u18,u19,u20,u21,u22,u23,u24,u25,u26,u27,u28,u29,u30,u31,u32,u33,u34,u35,u36,u37,u38,u39,u40,u41,u42,u43,u44,u45,u46,u47,u48,u49,u50,u51,u52,u53,u54,u55,u56,u57,u58,u59,u60,u61,u62,u63,u64,u65,u66,u67,u68,u69,u70,u71,u72,u73,u74,u75,u76,u77,u78,u79,u80,u81,u82,u83,u84,u85,u86,u87,u88,u89,u90,u91,u92,u93,u94,u95,u96,u97,u98,u99,u100,u101,u102,u103,u104,u105,u106,u107,u108,u109,u110,u111,u112,u113,u114,u115,u116,u117,u118,u119,u120,u121,u122,u123,u124,u125,u126,u127,u128,u129,u130,u131,u132,u133,u134,u135,u136,u137,u138,u139,u140,u141,u142,u143,u144,u145,u146,u147,u148],[]⟩ w5:=by
 conv=>arg 2;whnf
 have H:=aa h
 have HI:=aa hI
 have hcn:=h.k
 have hnm:=h.m
 have s1:(0:Int)<=(sy:Int):=om
 have s2:(sy:Int)<=(c:Int):=om
 have hB5:=hI.b
 obtain⟨_,g0,g1,g2,_,_,_,_⟩:=aJ (Below.refl _ w5) HI.out.x0
 have HOK:=aa hok
 have HDK:=aa hdk
 have HST:=aa hst
 have H4:=aa h4
 have SY:=aa hsy
 have GH:=aa hG
 have HREC:=aa hrec
 have HLEN:Hid (j.recs.length=n):=h.recs.len
 clear h hI hok hdk hst h4 hsy hG hrec
 by_cases hsl:sy=n
 ·subst hsl
  go_upto_region 15 with (fail)
  clear g0 g1 g2
  have HX1:=aa (En HI.out)
  have HYD:=aa HI.out.d
  obtain⟨w9,hw9⟩:∃w9:World,w9=w5.drew:=⟨_,rfl⟩
  have HI9:=aa (HI.out.below (Below.refl _ w5).drew)
  have HZ9:=aa (((Below.refl _ w5).drew.block _ (lt_of_block HX1.out)).trans HX1.out)
  have HD9:=aa (HYD.out.below (Below.refl _ w5).drew)
  rw[<-hw9]at HI9 HZ9 HD9
  have hZ2:w.heap.size+1≠w.heap.size+1+1:=om
  have hZ3:w.heap.size+1≠w.heap.size+1+1+1:=om
  obtain⟨_,g0,g1,g2,_,_,_,_⟩:=aJ (Below.refl _ w9) HI9.out.x0
  obtain⟨_,f0,f1,f2,f3,_,_⟩:=aF (Below.refl _ w9) HZ9.out
  have hS:w9.cell? ⟨w.heap.size,0,none⟩=some (.slice a sy c)/\w9.cell? ⟨w.heap.size,1,none⟩=some (.int .i64 j.many)/\w9.cell? ⟨w.heap.size,2,none⟩=some (.int .i64 sy)/\w9.cell? ⟨w.heap.size+1,0,none⟩=some (.slice p1 q1 r1)/\w9.cell? ⟨w.heap.size+1,1,none⟩=some (.slice p2 q2 r2)/\w9.cell? ⟨w.heap.size+1,2,none⟩=some (.int .i64 d.left)/\w9.cell? ⟨w.heap.size+1,3,none⟩=some (.bool d.stopped):=⟨g0,g1,g2,f0,f1,f2,f3⟩
  clear g0 g1 g2 f0 f1 f2 f3
  obtain⟨q1',q2',q3',q4',q5',q6'⟩:=kZ (Nz:=Nz) HI9.out.x2 HI9.out.x3 om (.slice a sy c) (.int .i64 j.many) (.int .i64 sy) (.slice p1 q1 r1) (.slice p2 q2 r2) (.int .i64 d.left) (.bool d.stopped)
  have R1:=aa q1'
  have R2:=aa q2'
  have R3:=aa q3'
  have R4:=aa q4'
  have R5:=aa (q5' w.heap.size w om om HI9.out.b)
  have R6:=aa (q6' om om _ _ _ _ _ _ _ HD9.out)
  clear q1' q2' q3' q4' q5' q6'
  refine fQ (fun W=>W.cell? ⟨w.heap.size,0,none⟩=some (.slice a sy c)/\W.cell? ⟨w.heap.size,1,none⟩=some (.int .i64 j.many)/\W.cell? ⟨w.heap.size,2,none⟩=some (.int .i64 sy)/\W.cell? ⟨w.heap.size+1,0,none⟩=some (.slice p1 q1 r1)/\W.cell? ⟨w.heap.size+1,1,none⟩=some (.slice p2 q2 r2)/\W.cell? ⟨w.heap.size+1,2,none⟩=some (.int .i64 d.left)/\W.cell? ⟨w.heap.size+1,3,none⟩=some (.bool d.stopped)) [3,4] kr ?_
  change dH _ _ _ _ _ _ _ _ _ w5.drew
  rw[<-hw9]
  clear hw9
  refine cR 0 [2,3,4] (.agg #[.slice a sy c,.int .i64 j.many,.int .i64 sy]) rfl kr kr kr kr (fun _ _ _ h=>h) rfl (fun W ⟨g0,g1,g2,f0,f1,f2,f3⟩ => ?s0) hS ?_
  case s0=>(go_simp;try rfl)
  simp only[Act.put,zA]
  refine cR 1 [3,4] (.agg #[.slice p1 q1 r1,.slice p2 q2 r2,.int .i64 d.left,.bool d.stopped]) rfl kr kr kr kr (fun _ _ _ h=>h) rfl (fun W ⟨g0,g1,g2,f0,f1,f2,f3⟩ => ?s1) hS ?_
  case s1=>(go_simp;try rfl)
  simp only[Act.put]
  obtain⟨_,t0,t1,t2,⟨i0,i1,i2⟩,y0,y1,y2⟩:=aJ (Below.refl _ w9) HI9.out.x2
  refine df 2 kr rfl rfl ?_
  have hS3:=cW.keep7 R2.out om hZ2 hS
  go_simp
  try refine⟨hS3,?_⟩
  clear hS3 t0 t1 t2 i0 i1 i2 y0 y1 y2 hS
  obtain⟨_,f0,f1,f2,f3,⟨e0,e1,e2,e3⟩,v0,v1,v2,v3⟩:=aF (Below.refl _ _) R1.out
  refine df 3 kr rfl rfl ?_
  go_simp
  clear f0 f1 f2 f3 e0 e1 e2 e3 v0 v1 v2 v3 R1 R2
  generalize (((((((w9.setCell ⟨w.heap.size+1+1,0,none⟩ (.slice a sy c)).setCell ⟨w.heap.size+1+1,1,none⟩ (.int .i64 j.many)).setCell ⟨w.heap.size+1+1,2,none⟩ (.int .i64 sy)).setCell ⟨w.heap.size+1+1+1,0,none⟩ (.slice p1 q1 r1)).setCell ⟨w.heap.size+1+1+1,1,none⟩ (.slice p2 q2 r2)).setCell ⟨w.heap.size+1+1+1,2,none⟩ (.int .i64 d.left)).setCell ⟨w.heap.size+1+1+1,3,none⟩ (.bool d.stopped))=wz at *
  refine df 4 kr rfl rfl ?_
  go_simp
  refine jx kr ?_
  obtain⟨_,f0,f1,f2,f3,_,_⟩:=aF (Below.refl _ wz) R4.out
  obtain⟨_,g0,g1,g2,_,_,_,_⟩:=aJ (Below.refl _ wz) R3.out
  go_wp2
  refine bodyPost_ret (by simp[results,Tryz.results29,go_sem,f0,f1,f2,f3,g0,g1,g2];try rfl) rfl ?_
  exact⟨rT H.out R5.out R6.out (by
     have hne:j.synced=j.recs.length:=by rw[SY.out,HLEN.out]
     rw[oQ HOK.out HDK.out HST.out H4.out (by
      rw[SY.out,Int.toNat_natCast,HREC.out,GH.out]
      rintro(h1|h1)
      ·exact h1 rfl
      ·omega) hne,<-SY.out]),R5.out⟩
 ·have hsl':¬(sy:Int)=(n:Int):=om
  have hlt:sy<n:=om
  have hs3:¬sy=c:=om
  have hs4:(sy:Int)<(n:Int):=om
  obtain⟨ab,ao,rfl,hrc⟩:∃b off,a=some ⟨b,off,none⟩/\∀(i:Nat) x,j.recs[i]? = some x->∃xa xn xc,xn<=maxLen/\xn<=xc/\Sl 1 ai w xa xn x/\w.cell? ⟨b,off+i,none⟩=some (.slice xa xn xc):=by
   rcases H.out.recs.secs with h0|⟨b,off,h0,hc⟩
   ·omega
   ·exact⟨b,off,h0,fun i x hx=>by
     obtain⟨xa,xn,xc,e1,e2,e3,e4⟩:=hc i x hx
     exact⟨xa,xn,xc,e1,e2,e3,e4⟩⟩
  have HRC:=aa hrc
  have HU:Hid (Calls Tryz.prog 66 #[.slice (some ⟨ab,ao,none⟩) sy c] w5 fun e w'=>e=.returned (.int .i64 (au (j.recs.take sy)))/\w5=w'):=pJ _ sy c _ w5 om (fun b hb=>H.out.s b (List.mem_of_mem_take hb)) (nE (H.out.recs.below aN.keeps hB5) hsn)
  obtain⟨A0,hA0⟩:=zg (au (j.recs.take sy))
  rw[<-hA0]at HU
  have HA:=aa hA0
  clear hA0 hrc
  go_wp2_with (go_at_call 66;refine HU.out.mono ?_;rintro e w' ⟨rfl,rfl⟩)
  clear HU g0 g1 g2
  obtain⟨post,hpost⟩:=zg (j.recs.drop sy)
  obtain⟨m,hm⟩:=zg (n-sy)
  have hpl:post.length=m:=by rw[hpost,List.length_drop,HLEN.out,hm]
  have hpg:∀i:Nat,post[i]? = j.recs[sy+i]? := fun i=>by rw[hpost,List.getElem?_drop]
  have HPG:=aa hpg
  have HPL:=aa hpl
  have hnm2:n=sy+m:=om
  have hroom:A0+au post<=d.secs.length:=by
   have h1:au j.recs=au (j.recs.take sy)+au (j.recs.drop sy):=by
    rw[<-lY,List.take_append_drop]
   have h2:=eM HOK.out
   have h3:=H4.out
   rw[HA.out,hpost]
   omega
  have HROOM:=aa hroom
  have HP:=aa hpost
  have HNM:=aa hnm2
  clear hpost hpl hpg hroom hnm2 hm
  obtain⟨wo,rfl⟩:∃wo:World,wo=w5:=⟨_,rfl⟩
  go_loopw [10,11] (fun s10 s11 wr=>∃(i q:Nat) (x:aj) (p1:Option Addr) (q1 r1:Nat) (p2:Option Addr) (q2 r2:Nat),i<=m/\q=sy+i/\s11=.int .i64 q/\s10=.int .i64 ((A0+au (post.take i):Nat):Int)/\x=bB G d A0 (post.take i)/\lk Nz w (some ⟨ab,ao,none⟩) n c j.many sy x wr p1 q1 r1 p2 q2 r2) (fun _ s11 _=>n-(intOf s11).toNat)
  case atStart=>exact⟨0,sy,d,p1,q1,r1,p2,q2,r2,Nat.zero_le _,rfl,rfl,rfl,rfl,HI.out⟩
  case round =>
   obtain⟨i,q,x,p1,q1,r1,p2,q2,r2,hi,hq,rfl,rfl,hx,hI⟩:=hrel
   have HX:=aa hx
   have HQI:=aa hq
   have HIi:=aa hI
   obtain⟨Ai,hAi⟩:=zg (A0+au (post.take i))
   rw[<-hAi]
   have HAi:=aa hAi
   have hqn:q<=n:=by have:=HNM.out;omega
   clear hx hI hAi HI hq
   obtain⟨_,g0,_,_,_,_,_,_⟩:=aJ (Below.refl _ wr) HIi.out.x0
   by_cases hlt:q<n
   ·have him:i<m:=by have:=HNM.out;have:=HQI.out;omega
    obtain⟨b,hb⟩:=av HPL.out him
    have hb2:=hb
    rw[HPG.out,<-HQI.out]at hb2
    obtain⟨xa,xn,xc,x1,x2,x3,x4⟩:=HRC.out _ b hb2
    have hxn:b.length=xn:=x3.len
    have hxs:xn<=100000:=by rw[<-hxn];exact H.out.s b (List.mem_of_getElem? hb2)
    have hcell:wr.cell? ⟨ab,ao+q,none⟩=some (.slice xa xn xc):=ag HIi.out.b x4
    obtain⟨K,hK⟩:=zg (bd xn)
    have HK:=aa hK
    have HSEC:Hid (∀W,Calls Tryz.prog 68 #[.int .i64 xn] W fun e w'=>e=.returned (.int .i64 K)/\W=w'):=fun W=>by rw[hK];exact lz xn W hxs
    have HB:=aa hb
    have HXS:=aa x3
    have HXN:=aa hxn
    have k0:(0:Int)<=(q:Int):=om
    have k1:(q:Int)<(n:Int):=om
    clear hb hb2 x1 x3 x4 hxn hK
    go_wp2_with (go_at_call 68;refine(HSEC.out _).mono ?_;rintro e w' ⟨rfl,rfl⟩)
    have hxr:x.runs=true/\x.secs.length=d.secs.length/\x.pend.length=au (post.take i)/\Ai+K<=d.secs.length:=by
     have h1:au (post.take i)+K<=au post:=by
      have h2:au (post.take (i+1))=au (post.take i)+bd b.length:=iK _ _ _ HB.out
      have h3:au (post.take (i+1))+au (post.drop (i+1))=au post:=by rw[<-lY,List.take_append_drop]
      rw[HXN.out,<-HK.out]at h2
      omega
     have h4:=HROOM.out
     have h5:d.pend.length=0:=by have:=H4.out;omega
     have h6:d.runs=true:=by simp[aj.runs,HDK.out,HST.out]
     rw[HX.out]
     refine⟨lX h6 om om,by rw[lW],by rw[rS,h5];omega,by rw[HAi.out];omega⟩
    have HXR:=aa hxr
    have hK60:K<=100:=by have:=hxr.2.2.2;omega
    clear hxr
    clear hcell HSEC g0
    obtain⟨wo2,rfl⟩:∃wo2:World,wo2=wr:=⟨_,rfl⟩
    go_loopw [10,14] (fun s10 s14 wr=>∃(k:Nat) (z:aj) (p1:Option Addr) (q1 r1:Nat) (p2:Option Addr) (q2 r2:Nat),k<=K/\s14=.int .i64 k/\s10=.int .i64 ((Ai+k:Nat):Int)/\z=dy x G Ai b k/\lk Nz w (some ⟨ab,ao,none⟩) n c j.many sy z wr p1 q1 r1 p2 q2 r2) (fun _ s14 _=>K-(intOf s14).toNat)
    case atStart=>exact⟨0,x,p1,q1,r1,p2,q2,r2,Nat.zero_le _,rfl,rfl,rfl,HIi.out⟩
    case round =>
     obtain⟨k,z,p1,q1,r1,p2,q2,r2,hk,rfl,rfl,hz,hI⟩:=hrel
     have HIk:=aa hI
     have HZ:=aa hz
     obtain⟨P,hP⟩:=zg (Ai+k)
     rw[<-hP]
     have HPP:=aa hP
     have hPb:P<=100:=by have:=HXR.out.2.2.2;omega
     clear hI hz hP HIi
     by_cases hkK:k<K
     ·obtain⟨u1,u2⟩:=Eb HXS.out HK.out hkK
      have HPL2:=aa u2
      have hmin:(if ((k:Int)+1)*112<(xn:Int) then ((k:Int)+1)*112 else (xn:Int))=((min xn (112*(k+1)):Nat):Int):=by split<;>omega
      obtain⟨hi',hhi⟩:∃hi',hi'=min xn (112*(k+1)):=⟨_,rfl⟩
      have hmin2:(if (112:Int)*((k:Int)+1)<(xn:Int) then (112:Int)*((k:Int)+1) else (xn:Int))=((min xn (112*(k+1)):Nat):Int):=by split<;>omega
      have HHI:=aa hhi
      have v1:112*k<=hi':=om
      have v2:hi'<=xn:=om
      go_upto_region 25 with (fail)
      have kk0:(0:Int)<=(k:Int):=om
      have kk1:(k:Int)<=100:=om
      go_cut [15] (fun s15 wx=>(∃(pa:Option Addr) (pn pc:Nat),s15=.slice pa pn pc/\pn<=112/\Sl 1 ai w pa pn (dM b k))/\wx=wr)
      case first =>
       by_cases hxc:xc=k*112
       ·subst hxc
        go_wp2
        go_meet
        have h1:=HPL2.out
        exact⟨⟨_,_,_,rfl,om,⟨om,.inl om⟩⟩,rfl⟩
       ·go_wp2
        go_meet
        refine⟨⟨_,_,_,rfl,om,?_⟩,rfl⟩
        have h1:=HPL2.out
        rcases HXS.out.bytes with h0|⟨b3,o3,rfl,_⟩
        ·exact⟨om,.inl om⟩
        ·have h2:=gQ HXS.out (k*112) (min xn (112*(k+1))-k*112) om
         have h3:(b.drop (k*112)).take (min xn (112*(k+1))-k*112)=dM b k:=by
          rw[dM,show k*112=112*k by omega,List.take_eq_take_iff,List.length_drop,HXN.out]
          omega
         rw[h3]at h2
         simpa[Addr.add_lit] using h2
      case rest =>
      obtain⟨⟨pa,pn,pc,rfl,hpn,hps⟩,hwc⟩:=hcut
      rw[hwc]
      have HPS:=aa hps
      clear hwc hps hmin hmin2 v1 v2 hhi
      go_upto_region 26 with (fail)
      have HEN:Hid (∀W,Below wr.heap.size wr W->Calls Tryz.prog 70 #[.int .u64 G,.int .i64 P,.bool (decide (k=0)),.bool (decide (k+1=K)),.slice pa pn pc] W fun e w'=>(∃v,e=.returned v/\aN Nz w' [v] (cl G Ai b k))/\Below W.heap.size W w'):=fun W hW=>by
       have h1:=Do (Nz:=Nz) G P (decide (k=0)) (decide (k+1=K)) pa pn pc (dM b k) W om om hpn (HPS.out.below ai.keeps (HIk.out.b.trans (hW.mono HIk.out.b.size)))
       rw[show eK G P (dg (decide (k=0)) (decide (k+1=K))) (dM b k)=cl G Ai b k by rw[cl,<-HPP.out,HK.out,HXN.out]]at h1
       exact h1
      have HWR:Hid (∀(W:World) (va:Option Addr) (vn vc:Nat),Below wr.heap.size wr W->vn<=maxLen->Sl 1 ai W va vn (cl G Ai b k)->Calls Tryz.prog 69 #[.agg #[.slice p1 q1 r1,.slice p2 q2 r2,.int .i64 z.left,.bool z.stopped],.int .i64 P,.slice va vn vc] W fun e w'=>i6 Nz e w' (dy x G Ai b (k+1)) 0/\Below W.heap.size W w'):=fun W va vn vc hW hm hg=>by
       refine Ea (HIk.out.d.below hW) hg hm ?_
       obtain⟨e1,e2,e3,e4⟩:=HXR.out
       have e5:d.secs.length<=100:=hn1
       have e7:au (post.take i)<=Ai:=by rw[HAi.out];omega
       rw[HZ.out,HPP.out]
       exact rP (mX k e1 om om) om om
      have hk0b:((k:Int) == 0)=decide (k=0):=by rw[Bool.eq_iff_iff];simp;try omega
      have hk1b:((k:Int) == (K:Int)-1)=decide (k+1=K):=by rw[Bool.eq_iff_iff];simp;try omega
      have hKw:IntKind.i64.wrap ((K:Int)-1)=(K:Int)-1:=by rw[IntKind.wrap_i64];omega
      obtain⟨_,f0,f1,f2,f3,_,_⟩:=aF (Below.refl _ wr) HIk.out.x1
      have hS:wr.cell? ⟨w.heap.size+1,0,none⟩=some (.slice p1 q1 r1)/\wr.cell? ⟨w.heap.size+1,1,none⟩=some (.slice p2 q2 r2)/\wr.cell? ⟨w.heap.size+1,2,none⟩=some (.int .i64 z.left)/\wr.cell? ⟨w.heap.size+1,3,none⟩=some (.bool z.stopped):=⟨f0,f1,f2,f3⟩
      clear f0 f1 f2 f3
      refine fQ (fun W=>W.cell? ⟨w.heap.size+1,0,none⟩=some (.slice p1 q1 r1)/\W.cell? ⟨w.heap.size+1,1,none⟩=some (.slice p2 q2 r2)/\W.cell? ⟨w.heap.size+1,2,none⟩=some (.int .i64 z.left)/\W.cell? ⟨w.heap.size+1,3,none⟩=some (.bool z.stopped)) [12,13,14,15,16] kr ?_
      refine cR 0 [12,13,14,15,16] (.agg #[.slice p1 q1 r1,.slice p2 q2 r2,.int .i64 z.left,.bool z.stopped]) rfl kr kr kr kr (fun _ _ _ h=>h) rfl (fun W ⟨f0,f1,f2,f3⟩ => ?y0) hS ?_
      case y0=>(go_simp;try rfl)
      simp only[Act.put,zA]
      refine cR 1 [12,13,14,15,16] (.int .i64 P) rfl kr kr kr kr (fun _ _ _ h=>h) rfl (fun W ⟨f0,f1,f2,f3⟩ => ?y1) hS ?_
      case y1=>(go_simp;try rfl)
      simp only[Act.put]
      refine cR 2 [11,12,13,14,15,16] (.int .u64 G) rfl kr kr kr kr (fun _ _ _ h=>h) rfl (fun W ⟨f0,f1,f2,f3⟩ => ?y2) hS ?_
      case y2=>(go_simp;try rfl)
      simp only[Act.put]
      refine cR 3 [11,12,13,14,15,16] (.int .i64 P) rfl kr kr kr kr (fun _ _ _ h=>h) rfl (fun W ⟨f0,f1,f2,f3⟩ => ?y3) hS ?_
      case y3=>(go_simp;try rfl)
      simp only[Act.put]
      refine cR 4 [5,11,12,13,14,15,16] (.int .i64 k) rfl kr kr kr kr (fun _ _ _ h=>h) rfl (fun W ⟨f0,f1,f2,f3⟩ => ?y4) hS ?_
      case y4=>(go_simp;try rfl)
      simp only[Act.put]
      refine cR 5 [11,12,13,14,15,16] (.bool (decide (k=0))) rfl kr kr kr kr (fun _ _ _ h=>h) rfl (fun W ⟨f0,f1,f2,f3⟩ => ?y5) hS ?_
      case y5=>(go_simp;try rfl)
      simp only[Act.put]
      refine cR 6 [9,11,12,13,14,15,16] (.int .i64 k) rfl kr kr kr kr (fun _ _ _ h=>h) rfl (fun W ⟨f0,f1,f2,f3⟩ => ?y6) hS ?_
      case y6=>(go_simp;try rfl)
      simp only[Act.put]
      refine cR 7 [8,9,11,12,13,14,15,16] (.int .i64 K) rfl kr kr kr kr (fun _ _ _ h=>h) rfl (fun W ⟨f0,f1,f2,f3⟩ => ?y7) hS ?_
      case y7=>(go_simp;try rfl)
      simp only[Act.put]
      refine cR 8 [9,11,12,13,14,15,16] (.int .i64 ((K:Int)-1)) rfl kr kr kr kr (fun _ _ _ h=>h) rfl (fun W ⟨f0,f1,f2,f3⟩ => ?y8) hS ?_
      case y8=>(go_simp;try rfl)
      simp only[Act.put]
      refine cR 9 [11,12,13,14,15,16] (.bool (decide (k+1=K))) rfl kr kr kr kr (fun _ _ _ h=>h) rfl (fun W ⟨f0,f1,f2,f3⟩ => ?y9) hS ?_
      case y9=>(go_simp;try rfl)
      simp only[Act.put]
      refine cR 10 [11,12,13,14,15,16] (.slice pa pn pc) rfl kr kr kr kr (fun _ _ _ h=>h) rfl (fun W ⟨f0,f1,f2,f3⟩ => ?y10) hS ?_
      case y10=>(go_simp;try rfl)
      simp only[Act.put]
      clear hk0b hk1b hKw
      refine df 11 kr rfl rfl ?_
      go_simp
      refine(HEN.out _ (Below.refl _ wr).drew).mono ?_
      rintro e w6 ⟨⟨v,rfl,va,vn,vc,hv,hvm,hvc,hvs,hvf⟩,hB6⟩
      simp only[List.cons.injEq,and_true]at hv
      subst hv
      have hBd:Below wr.heap.size wr w6:=(Below.refl _ wr).drew.trans hB6
      have hS6:=B6 hBd hS
      have HVS:=aa hvs
      refine⟨hS6,?_⟩
      clear hvs hvc hvf
      refine df 12 kr rfl rfl ?_
      go_simp
      refine(HWR.out _ _ _ _ hBd hvm HVS.out).mono ?_
      rintro e w7 ⟨⟨a1',n1',c1',a2',n2',c2',rfl,hJ⟩,hB7⟩
      have hBe:Below wr.heap.size wr w7:=hBd.trans (hB7.mono hBd.size)
      have HJ:=aa hJ
      clear hJ hS6 hS HVS hvm hB6 hB7 hBd HEN HWR
      obtain⟨z',hz'⟩:∃z',z'=dy x G Ai b (k+1):=⟨_,rfl⟩
      rw[<-hz']at HJ ⊢
      have HZ':=aa hz'
      clear hz'
      go_simp
      refine df 13 kr rfl rfl ?_
      go_simp
      refine lw 14 (.agg #[.slice a1' n1' c1',.slice a2' n2' c2',.int .i64 z'.left,.bool z'.stopped]) rfl kr kr kr kr (fun _ _ _ h=>h) rfl (fun W => ?y14) ?_
      case y14=>(go_simp;try rfl)
      simp only[Act.put,zA]
      refine lw 15 (.int .i64 0) rfl kr kr kr kr (fun _ _ _ h=>h) rfl (fun W => ?y15) ?_
      case y15=>(go_simp;try rfl)
      simp only[Act.put]
      have HI7:=aa ((HIk.out.below hBe).stored hNz HJ.out)
      obtain⟨_,f0,f1,f2,f3,⟨e0,e1,e2,e3⟩,v0,v1,v2,v3⟩:=aF (Below.refl _ w7) (HIk.out.below hBe).x1
      refine df 16 kr rfl rfl ?_
      go_simp
      clear f0 f1 f2 f3 e0 e1 e2 e3 v0 v1 v2 v3 hBe
      generalize ((((w7.setCell ⟨w.heap.size+1,0,none⟩ (.slice a1' n1' c1')).setCell ⟨w.heap.size+1,1,none⟩ (.slice a2' n2' c2')).setCell ⟨w.heap.size+1,2,none⟩ (.int .i64 z'.left)).setCell ⟨w.heap.size+1,3,none⟩ (.bool z'.stopped))=w8 at *
      refine jx kr ?_
      go_wp2
      exact⟨⟨k+1,z',_,_,_,_,_,_,om,by go_num,by rw[show ((Ai+(k+1):Nat):Int)=(P:Int)+1 by have:=HPP.out;omega],HZ'.out,HI7.out⟩,by simp[intOf];omega⟩
     ·obtain rfl:k=K:=om
      have hsn1:z=bB G d A0 (post.take (i+1)):=by
       rw[HZ.out,rQ G d A0 post i b HB.out,<-HX.out,<-HAi.out,HXN.out,<-HK.out]
      have hat1:P=A0+au (post.take (i+1)):=by
       have h1:=iK post i b HB.out
       have h2:=HPP.out
       have h3:=HAi.out
       rw[HXN.out,<-HK.out]at h1
       omega
      have HS1:=aa hsn1
      have HA1:=aa hat1
      clear hsn1 hat1
      go_wp2
      exact⟨⟨i+1,q+1,z,_,_,_,_,_,_,om,by have:=HQI.out;omega,by go_num,by rw[HA1.out],HS1.out,HIk.out⟩,by simp[intOf];omega⟩
   ·obtain rfl:n=q:=om
    obtain rfl:m=i:=by have:=HNM.out;have:=HQI.out;omega
    have hxx:x=bB G d A0 post:=by rw[HX.out,List.take_of_length_le (by rw[HPL.out];omega)]
    obtain⟨y,hy⟩:=zg x.sync.1
    obtain⟨nn,hnn⟩:=zg x.sync.2
    have hsy:x.sync=(y,nn):=by rw[hy,hnn]
    have HSY:=aa hsy
    have HXX:=aa hxx
    clear hxx hy hnn hsy
    obtain⟨_,f0,f1,f2,f3,_,_⟩:=aF (Below.refl _ wr) HIi.out.x1
    go_wp2_with fail
    refine(El HIi.out.d HSY.out).mono ?_
    rintro e w6 ⟨⟨a1',n1',c1',a2',n2',c2',rfl,hJ⟩,hB6⟩
    clear f0 f1 f2 f3 g0
    go_upto_region 29 with (fail)
    have HJ:=aa (hJ.below ((Below.refl _ w6).alloc (Nat.le_refl _) (.cells #[.slice a1' n1' c1',.slice a2' n2' c2',.int .i64 y.left,.bool y.stopped] 27)))
    have hzz:=ak (w:=w6) (.cells #[.slice a1' n1' c1',.slice a2' n2' c2',.int .i64 y.left,.bool y.stopped] 27) rfl
    have HI7:=aa ((HIi.out.below hB6).below ((Below.refl _ w6).alloc (Nat.le_refl _) (.cells #[.slice a1' n1' c1',.slice a2' n2' c2',.int .i64 y.left,.bool y.stopped] 27)))
    have hZ3:=lt_of_block (HIi.out.below hB6).x3
    obtain⟨Z,hZ⟩:=zg w6.heap.size
    rw[<-hZ]at hzz hZ3 ⊢
    generalize w6.alloc (.cells #[.slice a1' n1' c1',.slice a2' n2' c2',.int .i64 y.left,.bool y.stopped] 27)=w7 at *
    have HZZ:=aa hzz
    clear hJ hzz hB6 hZ
    by_cases hn0:nn=0
    ·subst hn0
     obtain⟨_,g0,g1,g2,⟨i0,i1,i2⟩,y0,y1,y2⟩:=aJ (Below.refl _ w7) HI7.out.x0
     have HI8:=aa (HI7.out.len hNz n)
     have hO8:cW w.heap.size w7 (w7.setCell ⟨w.heap.size,2,none⟩ (.int .i64 n)):=(cW.refl _ _).setCell _ _
     have HZ8:=aa ((hO8 Z om).trans HZZ.out)
     have HJ8:=aa (HJ.out.box hNz HI7.out.x0 (by decide) (by simp) (fun b _ hb=>hO8 b hb))
     clear hO8
     go_upto_region 32 with (fail)
     clear g0 g1 g2 i0 i1 i2 y0 y1 y2
     generalize w7.setCell ⟨w.heap.size,2,none⟩ (.int .i64 n)=w8 at *
     obtain⟨w9,hw9⟩:∃w9:World,w9=w8.drew:=⟨_,rfl⟩
     have HI9:=aa (HI8.out.below (Below.refl _ w8).drew)
     have HZ9:=aa (((Below.refl _ w8).drew.block _ (lt_of_block HZ8.out)).trans HZ8.out)
     have HD9:=aa (HJ8.out.below (Below.refl _ w8).drew)
     rw[<-hw9]at HI9 HZ9 HD9
     have hZ2:Z≠w.heap.size+1+1:=om
     have hZ3:Z≠w.heap.size+1+1+1:=om
     obtain⟨_,g0,g1,g2,_,_,_,_⟩:=aJ (Below.refl _ w9) HI9.out.x0
     obtain⟨_,f0,f1,f2,f3,_,_⟩:=aF (Below.refl _ w9) HZ9.out
     have hS:w9.cell? ⟨w.heap.size,0,none⟩=some (.slice (some ⟨ab,ao,none⟩) n c)/\w9.cell? ⟨w.heap.size,1,none⟩=some (.int .i64 j.many)/\w9.cell? ⟨w.heap.size,2,none⟩=some (.int .i64 n)/\w9.cell? ⟨Z,0,none⟩=some (.slice a1' n1' c1')/\w9.cell? ⟨Z,1,none⟩=some (.slice a2' n2' c2')/\w9.cell? ⟨Z,2,none⟩=some (.int .i64 y.left)/\w9.cell? ⟨Z,3,none⟩=some (.bool y.stopped):=⟨g0,g1,g2,f0,f1,f2,f3⟩
     clear g0 g1 g2 f0 f1 f2 f3
     obtain⟨q1',q2',q3',q4',q5',q6'⟩:=kZ (Nz:=Nz) HI9.out.x2 HI9.out.x3 om (.slice (some ⟨ab,ao,none⟩) n c) (.int .i64 j.many) (.int .i64 n) (.slice a1' n1' c1') (.slice a2' n2' c2') (.int .i64 y.left) (.bool y.stopped)
     have R1:=aa q1'
     have R2:=aa q2'
     have R3:=aa q3'
     have R4:=aa q4'
     have R5:=aa (q5' w.heap.size w om om HI9.out.b)
     have R6:=aa (q6' om om _ _ _ _ _ _ _ HD9.out)
     clear q1' q2' q3' q4' q5' q6'
     refine fQ (fun W=>W.cell? ⟨w.heap.size,0,none⟩=some (.slice (some ⟨ab,ao,none⟩) n c)/\W.cell? ⟨w.heap.size,1,none⟩=some (.int .i64 j.many)/\W.cell? ⟨w.heap.size,2,none⟩=some (.int .i64 n)/\W.cell? ⟨Z,0,none⟩=some (.slice a1' n1' c1')/\W.cell? ⟨Z,1,none⟩=some (.slice a2' n2' c2')/\W.cell? ⟨Z,2,none⟩=some (.int .i64 y.left)/\W.cell? ⟨Z,3,none⟩=some (.bool y.stopped)) [3,4] kr ?_
     change dH _ _ _ _ _ _ _ _ _ w8.drew
     rw[<-hw9]
     clear hw9
     refine cR 0 [2,3,4] (.agg #[.slice (some ⟨ab,ao,none⟩) n c,.int .i64 j.many,.int .i64 n]) rfl kr kr kr kr (fun _ _ _ h=>h) rfl (fun W ⟨g0,g1,g2,f0,f1,f2,f3⟩ => ?m0) hS ?_
     case m0=>(go_simp;try rfl)
     simp only[Act.put,zA]
     refine cR 1 [3,4] (.agg #[.slice a1' n1' c1',.slice a2' n2' c2',.int .i64 y.left,.bool y.stopped]) rfl kr kr kr kr (fun _ _ _ h=>h) rfl (fun W ⟨g0,g1,g2,f0,f1,f2,f3⟩ => ?m1) hS ?_
     case m1=>(go_simp;try rfl)
     simp only[Act.put]
     obtain⟨_,t0,t1,t2,⟨i0,i1,i2⟩,y0,y1,y2⟩:=aJ (Below.refl _ w9) HI9.out.x2
     refine df 2 kr rfl rfl ?_
     have hS3:=cW.keep7 R2.out om hZ2 hS
     go_simp
     try refine⟨hS3,?_⟩
     clear hS3 t0 t1 t2 i0 i1 i2 y0 y1 y2 hS
     obtain⟨_,f0,f1,f2,f3,⟨e0,e1,e2,e3⟩,v0,v1,v2,v3⟩:=aF (Below.refl _ _) R1.out
     refine df 3 kr rfl rfl ?_
     go_simp
     clear f0 f1 f2 f3 e0 e1 e2 e3 v0 v1 v2 v3 R1 R2
     generalize (((((((w9.setCell ⟨w.heap.size+1+1,0,none⟩ (.slice (some ⟨ab,ao,none⟩) n c)).setCell ⟨w.heap.size+1+1,1,none⟩ (.int .i64 j.many)).setCell ⟨w.heap.size+1+1,2,none⟩ (.int .i64 n)).setCell ⟨w.heap.size+1+1+1,0,none⟩ (.slice a1' n1' c1')).setCell ⟨w.heap.size+1+1+1,1,none⟩ (.slice a2' n2' c2')).setCell ⟨w.heap.size+1+1+1,2,none⟩ (.int .i64 y.left)).setCell ⟨w.heap.size+1+1+1,3,none⟩ (.bool y.stopped))=wz at *
     refine df 4 kr rfl rfl ?_
     go_simp
     refine jx kr ?_
     obtain⟨_,f0,f1,f2,f3,_,_⟩:=aF (Below.refl _ wz) R4.out
     obtain⟨_,g0,g1,g2,_,_,_,_⟩:=aJ (Below.refl _ wz) R3.out
     go_wp2
     refine bodyPost_ret (by simp[results,Tryz.results29,go_sem,f0,f1,f2,f3,g0,g1,g2];try rfl) rfl ?_
     have hne:j.synced≠j.recs.length:=by rw[SY.out,HLEN.out];omega
     have h0:bB (cz d.secs+1) d (au (j.recs.take j.synced.toNat)) (j.recs.drop j.synced.toNat)=x:=by
      rw[SY.out,Int.toNat_natCast,GH.out,<-HA.out,<-HP.out,HXX.out]
     exact⟨rT H.out R5.out R6.out (by
      rw[oR HOK.out HDK.out HST.out H4.out (by
        rw[SY.out,Int.toNat_natCast,HREC.out,GH.out]
        rintro(h1|h1)
        ·exact h1 rfl
        ·omega) hne h0 HSY.out,HLEN.out]),R5.out⟩
    ·have hn1':(nn == 0)=false:=by simpa using hn0
     have hn2':(nn != 0)=true:=by simpa using hn0
     go_upto_region 30 with (fail)
     obtain⟨w9,hw9⟩:∃w9:World,w9=w7.drew:=⟨_,rfl⟩
     have HI9:=aa (HI7.out.below (Below.refl _ w7).drew)
     have HZ9:=aa (((Below.refl _ w7).drew.block _ (lt_of_block HZZ.out)).trans HZZ.out)
     have HD9:=aa (HJ.out.below (Below.refl _ w7).drew)
     rw[<-hw9]at HI9 HZ9 HD9
     have hZ2:Z≠w.heap.size+1+1:=om
     have hZ3:Z≠w.heap.size+1+1+1:=om
     obtain⟨_,f0,f1,f2,f3,_,_⟩:=aF (Below.refl _ w9) HZ9.out
     have hS:w9.cell? ⟨Z,0,none⟩=some (.slice a1' n1' c1')/\w9.cell? ⟨Z,1,none⟩=some (.slice a2' n2' c2')/\w9.cell? ⟨Z,2,none⟩=some (.int .i64 y.left)/\w9.cell? ⟨Z,3,none⟩=some (.bool y.stopped):=⟨f0,f1,f2,f3⟩
     clear f0 f1 f2 f3
     obtain⟨q1',q2',q3',q4',q5',q6'⟩:=kZ (Nz:=Nz) HI9.out.x2 HI9.out.x3 om (.slice none 0 0) (.int .i64 0) (.int .i64 0) (.slice a1' n1' c1') (.slice a2' n2' c2') (.int .i64 y.left) (.bool y.stopped)
     have R1:=aa q1'
     have R2:=aa q2'
     have R3:=aa q3'
     have R4:=aa q4'
     have R5:=aa (q5' w.heap.size w om om HI9.out.b)
     have R6:=aa (q6' om om _ _ _ _ _ _ _ HD9.out)
     clear q1' q2' q3' q4' q5' q6'
     refine fQ (fun W=>W.cell? ⟨Z,0,none⟩=some (.slice a1' n1' c1')/\W.cell? ⟨Z,1,none⟩=some (.slice a2' n2' c2')/\W.cell? ⟨Z,2,none⟩=some (.int .i64 y.left)/\W.cell? ⟨Z,3,none⟩=some (.bool y.stopped)) [2,4,5] kr ?_
     change dH _ _ _ _ _ _ _ _ _ w7.drew
     rw[<-hw9]
     clear hw9
     refine lw 2 (.int .i64 nn) rfl kr kr kr kr (fun _ _ _ h=>h) rfl (fun W => ?p2) ?_
     case p2=>(go_simp;try rfl)
     simp only[Act.put,zA]
     refine cR 0 [3,4,5] (.agg #[.slice none 0 0,.int .i64 0,.int .i64 0]) rfl kr kr kr kr (fun _ _ _ h=>h) rfl (fun W ⟨f0,f1,f2,f3⟩ => ?p0) hS ?_
     case p0=>(go_simp;try rfl)
     simp only[Act.put]
     refine cR 1 [4,5] (.agg #[.slice a1' n1' c1',.slice a2' n2' c2',.int .i64 y.left,.bool y.stopped]) rfl kr kr kr kr (fun _ _ _ h=>h) rfl (fun W ⟨f0,f1,f2,f3⟩ => ?p1) hS ?_
     case p1=>(go_simp;try rfl)
     simp only[Act.put]
     obtain⟨_,t0,t1,t2,⟨i0,i1,i2⟩,y0,y1,y2⟩:=aJ (Below.refl _ w9) HI9.out.x2
     refine df 3 kr rfl rfl ?_
     have hS3:=cW.keep4 R2.out hZ2 hS
     go_simp
     try refine⟨hS3,?_⟩
     clear hS3 t0 t1 t2 i0 i1 i2 y0 y1 y2 hS
     obtain⟨_,f0,f1,f2,f3,⟨e0,e1,e2,e3⟩,v0,v1,v2,v3⟩:=aF (Below.refl _ _) R1.out
     refine df 4 kr rfl rfl ?_
     go_simp
     clear f0 f1 f2 f3 e0 e1 e2 e3 v0 v1 v2 v3 R1 R2
     generalize (((((((w9.setCell ⟨w.heap.size+1+1,0,none⟩ (.slice none 0 0)).setCell ⟨w.heap.size+1+1,1,none⟩ (.int .i64 0)).setCell ⟨w.heap.size+1+1,2,none⟩ (.int .i64 0)).setCell ⟨w.heap.size+1+1+1,0,none⟩ (.slice a1' n1' c1')).setCell ⟨w.heap.size+1+1+1,1,none⟩ (.slice a2' n2' c2')).setCell ⟨w.heap.size+1+1+1,2,none⟩ (.int .i64 y.left)).setCell ⟨w.heap.size+1+1+1,3,none⟩ (.bool y.stopped))=wz at *
     refine df 5 kr rfl rfl ?_
     go_simp
     refine jx kr ?_
     obtain⟨_,f0,f1,f2,f3,_,_⟩:=aF (Below.refl _ wz) R4.out
     obtain⟨_,g0,g1,g2,_,_,_,_⟩:=aJ (Below.refl _ wz) R3.out
     have HNE:=aa hn0
     clear hn0 hn1' hn2'
     go_wp2
     refine bodyPost_ret (by simp[results,Tryz.results29,go_sem,f0,f1,f2,f3,g0,g1,g2];try rfl) rfl ?_
     refine⟨?_,R5.out⟩
     have hne:j.synced≠j.recs.length:=by rw[SY.out,HLEN.out];omega
     have h0:bB (cz d.secs+1) d (au (j.recs.take j.synced.toNat)) (j.recs.drop j.synced.toNat)=x:=by
      rw[SY.out,Int.toNat_natCast,GH.out,<-HA.out,<-HP.out,HXX.out]
     rw[oS HOK.out HDK.out HST.out H4.out (by
       rw[SY.out,Int.toNat_natCast,HREC.out,GH.out]
       rintro(h1|h1)
       ·exact h1 rfl
       ·omega) hne h0 HSY.out HNE.out]
     exact⟨none,0,0,_,_,_,_,_,_,rfl,iB wz,R6.out⟩
end Go.Proofs.YtmflnpdmlfmcpaaGreatDoor
namespace Go.Proofs.YtmflnpdmlfmcpaaGreatDoor
open Go.RowKit
variable {Nz : Nat}
section
variable {P : Program} {md : Region.Mode} {ops : Array Oper} {Q : Exit -> Act -> World -> Prop} {S : World -> Prop} {D : List Nat}
theorem nb (i:Nat)(C:List Nat){o:Oper}(v:Value){k:Nat}{l:Array Bool}{a:Act}{w:World}(hi:ops[i]? = some o)(hs:Region.noSelect ops=true)(hf:Region.free md ops l i=true)(hr:(Region.ready md ops l).contains i=true)
  (hb:(D.all (fun j=>C.contains j || l.getD j true) && nS md ops i C && i5 l C)=true) (hQ:∀c a w,Q (.panic c) (a.put o.dst v) w->Q (.panic c) a w) (hy:YieldsIf P ops S o v a) (hS:S w)
  (h:dH P md ops Q S D k (l.setIfInBounds i true) (a.put o.dst v) w):dH P md ops Q S D (k+1) l a w:=by
 simp only[Bool.and_eq_true,List.all_eq_true]at hb
 obtain⟨⟨h1,h2⟩,h3⟩:=hb
 exact t6 hi (Region.noSelect_spec hs) hQ h2 k l a w (fun j hj=>by simpa using h1 j hj) h3 (Region.free_spec hi hf) (by simpa using hr) hy hS h
end
theorem DI (a:Option Addr)(n c:Nat)(j:am)(a1:Option Addr)(n1 c1:Nat)(a2:Option Addr)(n2 c2:Nat)(d:aj)(w:World)(hNz:Nz<=w.heap.size)(hn1:d.okB=true->n1<=100)(h:cg Nz w a n c j)(hD:bF Nz w a1 n1 c1 a2 n2 c2 d) :
  Calls Tryz.prog 29 #[.agg #[.slice a n c,.int .i64 j.many,.int .i64 j.synced],.agg #[.slice a1 n1 c1,.slice a2 n2 c2,.int .i64 d.left,.bool d.stopped]] w fun e w'=>eG Nz e w' (cC j d)/\Below w.heap.size w w':=by
 have H:=aa h
 have HD:=aa hD
 have hnm:=h.m
 have hcn:=h.k
 have m1:=hD.m1
 have m2:=hD.m2
 unfold maxLen at m1 m2
 have HLEN:Hid (j.recs.length=n):=h.recs.len
 clear h hD
 go_enter Tryz.func29,Tryz.ntmps29
 go_wp2_with fail
 refine(mF _ _ _ j _ (H.out.below ?hb)).mono ?_
 case hb=>go_grown
 rintro e w1 ⟨rfl,hB⟩
 have hx0:w1.heap[w.heap.size]? = some (.cells #[.slice a n c,.int .i64 j.many,.int .i64 j.synced] 24 (0,0)):=(hB.block _ (by simp;omega)).trans (aB _ (aB _ (aB _ (ak _ rfl))))
 have hx1:w1.heap[w.heap.size+1]? = some (.cells #[.slice a1 n1 c1,.slice a2 n2 c2,.int .i64 d.left,.bool d.stopped] 27 (0,0)):=(hB.block _ (by simp<;>omega)).trans (aB _ (aB _ (ak _ (by simp))))
 have hx2:w1.heap[w.heap.size+1+1]? = some (.cells #[.slice none 0 0,.int .i64 0,.int .i64 0] 24 (0,0)):=(hB.block _ (by simp<;>omega)).trans (aB _ (ak _ (by simp)))
 have hx3:w1.heap[w.heap.size+1+1+1]? = some (.cells zK 27 (0,0)):=(hB.block _ (by simp)).trans (ak _ (by simp))
 have hB1:Below w.heap.size w w1:=Below.trans (by go_grown) (hB.mono (by simp;omega))
 have hs1:=hB1.size
 obtain⟨hl2,r0,r1,r2,⟨i0,i1,i2⟩,y0,y1,y2⟩:=aJ (Below.refl _ w1) hx2
 obtain⟨hl3,t0,t1,t2,t3,⟨k0,k1,k2,k3⟩,z0,z1,z2,z3⟩:=aF (Below.refl _ w1) hx3
 obtain⟨_,f0,f1,f2,f3,_,_⟩:=aF (Below.refl _ w1) hx1
 have HX0:=aa hx0
 have HX1:=aa hx1
 have HX2:=aa hx2
 have HX3:=aa hx3
 clear hB hx0 hx1 hx2 hx3
 cases hok:j.okB
 ·have HN:=aa (uT (d:=d) hok)
  rw[show j.check=1 by simp[am.check,hok]]
  clear hok f0 f1 f2 f3
  go_wp2
  refine bodyPost_ret (by simp[results,Tryz.results29,go_sem,r0,r1,r2,t0,t1,t2,t3];try rfl) rfl ?_
  exact⟨ee HN.out,by go_grown⟩
 rw[show j.check=0 by simp[am.check,hok]]
 obtain⟨p1,p2,p3,p4,p5⟩:=eM hok
 go_wp2_with fail
 refine(n6 _ _ _ _ _ _ d _ (HD.out.below hB1)).mono ?_
 rintro e w2 ⟨rfl,hB12⟩
 have hB2:=hB1.trans (hB12.mono hs1)
 obtain⟨sy,hsy⟩:=Int.eq_ofNat_of_zero_le p3
 have hI2:lk Nz w a n c j.many sy d w2 a1 n1 c1 a2 n2 c2:=by
  refine⟨hB2,?_,(hB12.block _ (lt_of_block HX1.out)).trans HX1.out,(hB12.block _ (lt_of_block HX2.out)).trans HX2.out,(hB12.block _ (lt_of_block HX3.out)).trans HX3.out,HD.out.below hB2⟩
  have h0:=(hB12.block _ (lt_of_block HX0.out)).trans HX0.out
  rwa [hsy]at h0
 have HI:=aa hI2
 have SY:=aa hsy
 have hsn:sy<=n:=by have:=HLEN.out;omega
 clear r0 r1 r2 i0 i1 i2 y0 y1 y2 t0 t1 t2 t3 k0 k1 k2 k3 z0 z1 z2 z3 f0 f1 f2 f3 hl2 hl3 hI2 HX0 HX1 HX2 HX3 hB12 hsy hB1
 obtain⟨_,r0,r1,r2,⟨i0,i1,i2⟩,y0,y1,y2⟩:=aJ (Below.refl _ w2) HI.out.x2
 obtain⟨_,t0,t1,t2,t3,⟨k0,k1,k2,k3⟩,z0,z1,z2,z3⟩:=aF (Below.refl _ w2) HI.out.x3
 obtain⟨_,f0,f1,f2,f3,_,_⟩:=aF (Below.refl _ w2) HI.out.x1
 obtain⟨_,g0,g1,g2,_,_,_,_⟩:=aJ (Below.refl _ w2) HI.out.x0
 cases hdk:d.okB
 ·have HN:=aa (uU hok hdk)
  rw[aj.check_bad hdk]
  clear hok hdk f0 f1 f2 f3 g0 g1 g2
  go_wp2
  refine bodyPost_ret (by simp[results,Tryz.results29,go_sem,r0,r1,r2,t0,t1,t2,t3];try rfl) rfl ?_
  exact⟨ee HN.out,by go_grown⟩
 rw[aj.check_ok hdk]
 have HOK:=aa hok
 have HDK:=aa hdk
 have hs2:=hB2.size
 have HDL:Hid (d.secs.length=n1):=HD.out.secs.len
 have HPL:Hid (d.pend.length=n2):=HD.out.pend.len
 clear hok hdk
 obtain⟨mm,hmm⟩:=zg j.many
 rw[<-hmm]at g1 p1 p2 p5
 have MM:=aa hmm
 clear hmm
 cases hst:d.stopped
 ·have HST:=aa hst
  rw[hst]at f3
  clear hst
  by_cases hmn:mm=(n1:Int)
  ·by_cases hp:n2=0
   ·have H4:Hid (¬(j.many≠d.secs.length\/0<d.pend.length)):=by
     show ¬_
     rw[<-MM.out,HDL.out,HPL.out]
     omega
    have H128:=aa (iT HDK.out)
    obtain rfl:=hmn
    obtain rfl:=hp
    go_wp2_with fail
    refine(C7 a1 n1 c1 d.secs w2 om H128.out HI.out.d.secs).mono ?_
    rintro e w3 ⟨rfl,hB23⟩
    obtain⟨G,hG⟩:=zg (cz d.secs+1)
    rw[<-hG]
    have hGl:G<=4294967296:=by have:=tM H128.out;omega
    have GH:=aa hG
    have HI3:=aa (HI.out.below hB23)
    have hB3:=hB2.trans (hB23.mono hs2)
    clear hG r0 r1 r2 i0 i1 i2 y0 y1 y2 t0 t1 t2 t3 k0 k1 k2 k3 z0 z1 z2 z3 f0 f1 f2 f3 g0 g1 g2 hB23 HI
    go_upto_region 12 with (fail)
    obtain⟨_,f0,_,_,_,_,_⟩:=aF (Below.refl _ w3) HI3.out.x1
    obtain⟨_,g0,_,g2,_,_,_,_⟩:=aJ (Below.refl _ w3) HI3.out.x0
    have hS:w3.cell? ⟨w.heap.size+1,0,none⟩=some (.slice a1 n1 c1)/\w3.cell? ⟨w.heap.size,0,none⟩=some (.slice a n c)/\w3.cell? ⟨w.heap.size,2,none⟩=some (.int .i64 sy):=⟨f0,g0,g2⟩
    clear f0 g0 g2
    have HRR:Hid (∀W,Below w3.heap.size w3 W->Calls Tryz.prog 63 #[.slice a1 n1 c1] W fun e w'=>C0 W.heap.size (bN d.secs) e w'/\Below W.heap.size W w'):=fun W hW=>CW a1 n1 c1 d.secs W om H128.out (HI3.out.d.secs.below aN.keeps hW)
    have HSM:Hid (∀(W:World) (ra:Option Addr) (rk rc:Nat),Below w3.heap.size w3 W->rk<=5000->Sl 1 (aN Nz) W ra rk (bN d.secs)->Calls Tryz.prog 30 #[.slice ra rk rc,.slice a sy c] W fun e w'=>e=.returned (.bool (decide (bN d.secs=j.recs.take sy)))/\Below W.heap.size W w'):=fun W ra rk rc hW hk hs =>
     qQ ra rk rc a sy c _ _ W hk hs (nE (H.out.recs.below aN.keeps (hB3.trans (hW.mono hB3.size))) hsn) (by unfold maxLen;omega)
    obtain⟨rr,hrr⟩:=zg (decide (bN d.secs=j.recs.take sy))
    rw[<-hrr]at HSM
    have HRB:=aa hrr
    have s1:(0:Int)<=(sy:Int):=om
    have s2:(sy:Int)<=(c:Int):=om
    clear hrr
    go_cut [66] (fun s66 wx=>s66=.bool (!(rr && decide (G<=4294967295)))/\Below w3.heap.size w3 wx)
    case first =>
     refine fQ (fun W=>W.cell? ⟨w.heap.size+1,0,none⟩=some (.slice a1 n1 c1)/\W.cell? ⟨w.heap.size,0,none⟩=some (.slice a n c)/\W.cell? ⟨w.heap.size,2,none⟩=some (.int .i64 sy)) [] kr ?_
     change dH _ _ _ _ _ _ _ _ _ w3.drew
     have hS:=C4 (Below.refl w3.heap.size w3).drew hS
     refine cR 0 [] (.pointer (some ⟨w.heap.size+1,0,none⟩)) rfl kr kr kr kr (fun _ _ _ h=>h) rfl (fun W ⟨f0,g0,g2⟩ => ?c0) hS ?_
     case c0=>(go_simp;try rfl)
     simp only[Act.put,zA]
     refine cR 1 [] (.slice a1 n1 c1) rfl kr kr kr kr (fun _ _ _ h=>h) rfl (fun W ⟨f0,g0,g2⟩ => ?c1) hS ?_
     case c1=>(go_simp;try rfl)
     simp only[Act.put]
     refine cR 3 [] (.pointer (some ⟨w.heap.size,0,none⟩)) rfl kr kr kr kr (fun _ _ _ h=>h) rfl (fun W ⟨f0,g0,g2⟩ => ?c3) hS ?_
     case c3=>(go_simp;try rfl)
     simp only[Act.put]
     refine cR 4 [] (.slice a n c) rfl kr kr kr kr (fun _ _ _ h=>h) rfl (fun W ⟨f0,g0,g2⟩ => ?c4) hS ?_
     case c4=>(go_simp;try rfl)
     simp only[Act.put]
     refine cR 5 [] (.pointer (some ⟨w.heap.size,2,none⟩)) rfl kr kr kr kr (fun _ _ _ h=>h) rfl (fun W ⟨f0,g0,g2⟩ => ?c5) hS ?_
     case c5=>(go_simp;try rfl)
     simp only[Act.put]
     refine cR 6 [] (.int .i64 sy) rfl kr kr kr kr (fun _ _ _ h=>h) rfl (fun W ⟨f0,g0,g2⟩ => ?c6) hS ?_
     case c6=>(go_simp;try rfl)
     simp only[Act.put]
     refine cR 7 [] (.slice a sy c) rfl kr kr kr kr (fun _ _ _ h=>h) rfl (fun W ⟨f0,g0,g2⟩ => ?c7) hS ?_
     case c7=>(go_simp;try rfl)
     simp only[Act.put]
     refine df 2 kr rfl rfl ?_
     go_simp
     refine(HRR.out _ (Below.refl _ w3).drew).mono ?_
     rintro e w4 ⟨⟨ra,rk,rc,vs,rfl,hrk,hro,hrs⟩,hB4⟩
     have hB34:Below w3.heap.size w3 w4:=(Below.refl _ w3).drew.trans hB4
     have hS:=C4 hB4 hS
     obtain⟨_,hsl,_⟩:=yk (Nz:=Nz) hro hrs
     have HSL:=aa hsl
     clear hro hrs hsl hB4
     refine⟨hS,?_⟩
     refine df 8 kr rfl rfl ?_
     go_simp
     refine(HSM.out _ _ _ _ hB34 om HSL.out).mono ?_
     rintro e w5 ⟨rfl,hB5⟩
     have hS:=C4 hB5 hS
     have hB35:Below w3.heap.size w3 w5:=hB34.trans (hB5.mono hB34.size)
     clear hB5 hB34 HSL HSM HRR
     refine⟨hS,?_⟩
     cases rr
     ·refine cR 9 [] (.bool true) rfl kr kr kr kr (fun _ _ _ h=>h) rfl (fun W ⟨f0,g0,g2⟩ => ?d9FalseNone) hS ?_
      case d9FalseNone=>(go_simp;try rfl)
      simp only[Act.put]
      refine cR 10 [] (.bool true) rfl kr kr kr kr (fun _ _ _ h=>h) rfl (fun W ⟨f0,g0,g2⟩ => ?d10FalseNone) hS ?_
      case d10FalseNone=>(go_simp;try rfl)
      simp only[Act.put]
      refine nb 11 [] undef rfl kr kr kr kr (fun _ _ _ h=>h) (.inr ⟨rfl,rfl⟩) hS ?_
      simp only[Act.put]
      refine nb 12 [] undef rfl kr kr kr kr (fun _ _ _ h=>h) (.inr ⟨rfl,rfl⟩) hS ?_
      simp only[Act.put]
      refine cR 13 [] (.bool true) rfl kr kr kr kr (fun _ _ _ h=>h) rfl (fun W ⟨f0,g0,g2⟩ => ?d13FalseNone) hS ?_
      case d13FalseNone=>(go_simp;try rfl)
      simp only[Act.put]
      refine jx kr ?_
      (try go_simp)
      go_wp2
      go_meet
      exact⟨rfl,hB35⟩
     ·by_cases hg:G<=4294967295
      ·have v1:decide ((4294967295:Int)<(G:Int))=false:=by simp;omega
       have HG:=aa hg
       clear hg
       refine cR 9 [] (.bool false) rfl kr kr kr kr (fun _ _ _ h=>h) rfl (fun W ⟨f0,g0,g2⟩ => ?d9TrueTrue) hS ?_
       case d9TrueTrue=>(go_simp;try rfl)
       simp only[Act.put]
       refine cR 10 [] (.bool false) rfl kr kr kr kr (fun _ _ _ h=>h) rfl (fun W ⟨f0,g0,g2⟩ => ?d10TrueTrue) hS ?_
       case d10TrueTrue=>(go_simp;try rfl)
       simp only[Act.put]
       refine nb 11 [] (.int .u64 G) rfl kr kr kr kr (fun _ _ _ h=>h) (.inl ⟨rfl,fun W ⟨f0,g0,g2⟩ => ?e11True⟩) hS ?_
       case e11True=>(go_simp;try rfl)
       simp only[Act.put]
       refine nb 12 [] (.bool false) rfl kr kr kr kr (fun _ _ _ h=>h) (.inl ⟨rfl,fun W ⟨f0,g0,g2⟩ => ?e12True⟩) hS ?_
       case e12True=>(go_simp;try rfl)
       simp only[Act.put]
       refine cR 13 [] (.bool false) rfl kr kr kr kr (fun _ _ _ h=>h) rfl (fun W ⟨f0,g0,g2⟩ => ?d13TrueTrue) hS ?_
       case d13TrueTrue=>(go_simp;try rfl)
       simp only[Act.put]
       refine jx kr ?_
       (try go_simp)
       go_wp2
       go_meet
       exact⟨by rw[decide_eq_true HG.out];rfl,hB35⟩
      ·have v1:decide ((4294967295:Int)<(G:Int))=true:=by simp;omega
       have HG:=aa hg
       clear hg
       refine cR 9 [] (.bool false) rfl kr kr kr kr (fun _ _ _ h=>h) rfl (fun W ⟨f0,g0,g2⟩ => ?d9TrueFalse) hS ?_
       case d9TrueFalse=>(go_simp;try rfl)
       simp only[Act.put]
       refine cR 10 [] (.bool false) rfl kr kr kr kr (fun _ _ _ h=>h) rfl (fun W ⟨f0,g0,g2⟩ => ?d10TrueFalse) hS ?_
       case d10TrueFalse=>(go_simp;try rfl)
       simp only[Act.put]
       refine nb 11 [] (.int .u64 G) rfl kr kr kr kr (fun _ _ _ h=>h) (.inl ⟨rfl,fun W ⟨f0,g0,g2⟩ => ?e11False⟩) hS ?_
       case e11False=>(go_simp;try rfl)
       simp only[Act.put]
       refine nb 12 [] (.bool true) rfl kr kr kr kr (fun _ _ _ h=>h) (.inl ⟨rfl,fun W ⟨f0,g0,g2⟩ => ?e12False⟩) hS ?_
       case e12False=>(go_simp;try rfl)
       simp only[Act.put]
       refine cR 13 [] (.bool true) rfl kr kr kr kr (fun _ _ _ h=>h) rfl (fun W ⟨f0,g0,g2⟩ => ?d13TrueFalse) hS ?_
       case d13TrueFalse=>(go_simp;try rfl)
       simp only[Act.put]
       refine jx kr ?_
       (try go_simp)
       go_wp2
       go_meet
       exact⟨by rw[decide_eq_false HG.out];rfl,hB35⟩
    case rest =>
    obtain⟨rfl,hB35⟩:=hcut
    obtain⟨w5,hw5⟩:=zg wc
    rw[<-hw5]at hB35 ⊢
    clear hw5 hS HRR HSM
    have HI5:=aa (HI3.out.below hB35)
    have hB5:Below w.heap.size w w5:=hB3.trans (hB35.mono hB3.size)
    clear HI3 hB35 hB3
    obtain⟨_,g0,g1,g2,_,_,_,_⟩:=aJ (Below.refl _ w5) HI5.out.x0
    obtain⟨_,r0,r1,r2,⟨i0,i1,i2⟩,y0,y1,y2⟩:=aJ (Below.refl _ w5) HI5.out.x2
    obtain⟨_,t0,t1,t2,t3,⟨k0,k1,k2,k3⟩,z0,z1,z2,z3⟩:=aF (Below.refl _ w5) HI5.out.x3
    cases hgo:(rr && decide (G<=4294967295))
    ·have HN:=aa (xA HOK.out HDK.out HST.out H4.out (by
      rw[SY.out,Int.toNat_natCast,<-GH.out]
      have h5:=HRB.out
      rw[h5]at hgo
      simp only[Bool.and_eq_false_iff,decide_eq_false_iff_not]at hgo
      rcases hgo with h5|h5
      ·exact .inl h5
      ·exact .inr om))
     clear hgo
     go_wp2
     refine bodyPost_ret (by simp[results,Tryz.results29,go_sem,r0,r1,r2,t0,t1,t2,t3];try rfl) rfl ?_
     exact⟨ee HN.out,by go_grown⟩
    have hgo2:bN d.secs=j.recs.take sy/\G<=4294967295:=by
     rw[HRB.out]at hgo
     simpa only[Bool.and_eq_true,decide_eq_true_eq] using hgo
    have HREC:=aa hgo2.1
    have hGs:=hgo2.2
    clear hgo hgo2 r0 r1 r2 i0 i1 i2 y0 y1 y2 t0 t1 t2 t3 k0 k1 k2 k3 z0 z1 z2 z3
    clear g0 g1 g2
    iterate 5 go_step
    exact DH a n c j a1 n1 c1 a2 0 c2 d w w5 sy G hNz H.out hsn HI5.out (by rw[HDL.out];exact hn1 HDK.out) HOK.out HDK.out HST.out H4.out SY.out GH.out.symm hGs HREC.out
   ·have HN:=aa (oP (j:=j) HOK.out HDK.out HST.out (.inr (by rw[HPL.out];omega)))
    have q3:decide (0<n2)=true:=by simp;omega
    have q4:(0:Int)<(n2:Int):=om
    have q1:(mm == (n1:Int))=true:=by simpa using hmn
    have q2:(mm != (n1:Int))=false:=by simpa using hmn
    clear hmn hp
    go_wp2
    refine bodyPost_ret (by simp[results,Tryz.results29,go_sem,r0,r1,r2,t0,t1,t2,t3];try rfl) rfl ?_
    exact⟨ee HN.out,by go_grown⟩
  ·have HN:=aa (oP HOK.out HDK.out HST.out (.inl (by rw[<-MM.out,HDL.out];exact hmn)))
   have q1:(mm == (n1:Int))=false:=by simpa using hmn
   have q2:(mm != (n1:Int))=true:=by simpa using hmn
   clear hmn
   go_wp2
   refine bodyPost_ret (by simp[results,Tryz.results29,go_sem,r0,r1,r2,t0,t1,t2,t3];try rfl) rfl ?_
   exact⟨ee HN.out,by go_grown⟩
 ·have HN:=aa (qz HOK.out HDK.out hst)
  rw[hst]at f3
  clear hst
  go_wp2
  refine bodyPost_ret (by simp[results,Tryz.results29,go_sem,r0,r1,r2,t0,t1,t2,t3];try rfl) rfl ?_
  exact⟨ee HN.out,by go_grown⟩
end Go.Proofs.YtmflnpdmlfmcpaaGreatDoor
namespace Go.Proofs.YtmflnpdmlfmcpaaGreatDoor
theorem zv {y:aj}{rs:List (List UInt8)}(hr:y.runs=true)(hp:y.pend=[])(hrec:bN y.secs=rs):ci y=(⟨rs,y.secs.length,rs.length⟩,0):=by
 obtain⟨hok,hst⟩:=fh hr
 rw[nl hok hst (by rw[hp];rfl),hrec]
structure kA (S k:Nat)(d:aj)(kept:List (List UInt8)):Prop where
 runs:d.runs=true
 left:d.left = -1
 pend:d.pend=[]
 recs:bN d.secs=kept
 top:cz d.secs<=k
 len:d.secs.length=S
 fit:(⟨kept,S,kept.length⟩:am).okB=true
theorem zw : ∀k:Fin 30,(aj.fresh (k.val+1)).runs=true/\bN (aj.fresh (k.val+1)).secs=[]/\cz (aj.fresh (k.val+1)).secs=0/\(⟨[],((k.val+1:Nat):Int),0⟩:am).okB=true:=by decide +kernel
theorem kA.start (n:Nat)(h1:1<=n)(h2:n<=30):kA n 0 (aj.fresh n) []:=by
 obtain⟨k,rfl⟩:∃k,n=k+1:=⟨n-1,om⟩
 obtain⟨g1,g2,g3,g4⟩:=zw ⟨k,om⟩
 exact⟨g1,rfl,rfl,g2,by rw[show cz (aj.fresh (k+1)).secs=0 from g3];omega,by simp[aj.fresh],g4⟩
theorem kA.open {S k:Nat}{d:aj}{kept:List (List UInt8)}(h:kA S k d kept):ci d=(⟨kept,S,kept.length⟩,0):=by
 have:=zv h.runs h.pend h.recs
 rwa [h.len]at this
theorem oY {S:Nat}{j:am}(h:j.okB=true)(hm:j.many=S){l:List (List UInt8)}(hl:au l<=au j.recs):(⟨l,S,l.length⟩:am).okB=true:=by
 have hjo:=eM h
 simp only[am.okB,Bool.and_eq_true,decide_eq_true_eq]
 omega
theorem kA.round {S k:Nat}{d:aj}{kept:List (List UInt8)}(h:kA S k d kept)(hk:k<=1000)(l:List (List UInt8)){D:aj}(hr:D.runs=true)(hs:D.secs=d.secs)(hp:D.pend=[]){j:am}(hj:j=cN ⟨kept,S,kept.length⟩ l) :
  j.okB=true/\j.many=S/\kept.length<=j.recs.length /\
  ((∃y,cC j D=(⟨j.recs,S,j.recs.length⟩,y,0)/\kA S (k+1) y.restart j.recs/\y.secs.length=S) \/
   (0<=D.left/\∃y m,cC j D=(.zero,y,40)/\kept.length<=m/\m<=j.recs.length/\kA S (k+1) y.restart (j.recs.take m)/\y.secs.length=S)):=by
 have hi:=zu l h.fit
 rw[<-hj]at hi
 obtain⟨ext,he⟩:=hi.ext
 simp only at he
 have htk:j.recs.take kept.length=kept:=by rw[he,List.take_left]
 have hlen:kept.length<=j.recs.length:=by rw[he];simp
 have hm:j.many=S:=hi.many
 have hsy:j.synced=(kept.length:Int):=hi.synced
 have hH:=Dn (d:=D) (j:=j) (sy:=kept.length) hr hp (by rw[hs,h.recs,htk]) (by have:=h.top;rw[hs];omega) hi.ok (by rw[hm,hs,h.len])
 have hjo:=eM hi.ok
 refine⟨hi.ok,hm,hlen,?_⟩
 rcases rZ hi.ok (by rw[hm,hs,h.len]) hsy hH with ⟨y,y1,y2,y3,y4,y5,y6,_⟩|⟨h0,y,m,y1,y2,y3,y4,y5,y6,y7,y8⟩
 ·left
  rw[hs]at y5 y6
  rw[h.len]at y6
  refine⟨y,by rw[y1,hm],⟨?_,rfl,rfl,y4,by have:=h.top;simp only[aj.restart];omega,y6,?_⟩,y6⟩
  ·exact jp om om (fun b hb=>iT (fh y2).1 b hb)
  ·exact oY hi.ok hm (Nat.le_refl _)
 ·right
  rw[hs]at y7 y8
  rw[h.len]at y8
  refine⟨h0,y,m,y1,y5,y6,⟨y3,rfl,rfl,y4,by have:=h.top;simp only[aj.restart];omega,y8,?_⟩,y8⟩
  refine oY hi.ok hm ?_
  have h2:=j8 (j.recs.take m) (j.recs.drop m)
  rw[List.take_append_drop]at h2
  omega
end Go.Proofs.YtmflnpdmlfmcpaaGreatDoor
