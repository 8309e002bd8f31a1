/- Joined texts. -/
import Derived.Test.YtmflnpdmlfmcpaaGreatDoorJp42
namespace Go.Proofs.YtmflnpdmlfmcpaaGreatDoor.Dr
open Go.RowKit Go.Shelf
theorem Bd : ∀k:Fin 60,(aj.fresh (k.val+1)).runs=true/\bN (aj.fresh (k.val+1)).secs=[]/\cz (aj.fresh (k.val+1)).secs=0/\(⟨[],((k.val+1:Nat):Int),0⟩:am).okB=true:=by decide +kernel
theorem sg (n:Nat)(h1:1<=n)(h2:n<=60):kA n 0 (aj.fresh n) []:=by
 obtain⟨k,rfl⟩:∃k,n=k+1:=⟨n-1,om⟩
 obtain⟨g1,g2,g3,g4⟩:=Bd ⟨k,om⟩
 exact⟨g1,rfl,rfl,g2,by rw[show cz (aj.fresh (k+1)).secs=0 from g3];omega,by simp[aj.fresh],g4⟩
theorem vk {y:aj}(h:y.runs=true)(hp:y.pend=[])(hl:y.left = -1):y.restart=y:=by
 obtain⟨s,p,l,t⟩:=y
 have:=(fh h).2
 simp only at hp hl this
 subst hp hl this
 rfl
theorem tP {S k:Nat}{d:aj}{kept:List (List UInt8)}(h:kA S k d kept)(hk:k<=1000){D:aj}(hr:D.runs=true)(hs:D.secs=d.secs)(hp:D.pend=[]){j:am}(hok:j.okB=true)(hm:j.many=S)(hsy:j.synced=kept.length)(hpre:j.recs.take kept.length=kept) :
  (∃y,cC j D=(⟨j.recs,S,j.recs.length⟩,y,0)/\kA S (k+1) y.restart j.recs/\(D.left = -1->y.restart=y)/\y.secs.length=S) \/
  (0<=D.left/\∃y m,cC j D=(.zero,y,40)/\kept.length<=m/\m<=j.recs.length/\kA S (k+1) y.restart (j.recs.take m)/\y.secs.length=S):=by
 have hH:=Dn (d:=D) (j:=j) (sy:=kept.length) hr hp (by rw[hs,h.recs,hpre]) (by have:=h.top;rw[hs];omega) hok (by rw[hm,hs,h.len])
 have hjo:=eM hok
 rcases rZ hok (by rw[hm,hs,h.len]) hsy hH with ⟨y,y1,y2,y3,y4,y5,y6,y7⟩|⟨h0,y,m,y1,y2,y3,y4,y5,y6,y7,y8⟩
 ·left
  rw[hs]at y5 y6
  rw[h.len]at y6
  refine⟨y,by rw[y1,hm],⟨?_,rfl,rfl,y4,by have:=h.top;simp only[aj.restart];omega,y6,?_⟩,fun q=>vk y2 y3 (y7 q),y6⟩
  ·exact jp om om (fun b hb=>iT (fh y2).1 b hb)
  ·exact oY hok hm (Nat.le_refl _)
 ·right
  rw[hs]at y7 y8
  rw[h.len]at y8
  refine⟨h0,y,m,y1,y5,y6,⟨y3,rfl,rfl,y4,by have:=h.top;simp only[aj.restart];omega,y8,?_⟩,y8⟩
  refine oY hok hm ?_
  have h2:=j8 (j.recs.take m) (j.recs.drop m)
  rw[List.take_append_drop]at h2
  omega
structure dK (S k:Nat)(d:aj)(j:am)(l:List ar)(n:Nat):Prop where
 disk:kA S k d (j.recs.take n)
 keeps:fN S n j l
 le:n<=l.length
theorem dK.take {S k:Nat}{d:aj}{j:am}{l:List ar}{n:Nat}(h:dK S k d j l n):(j.recs.take n).length=n:=by
 rw[List.length_take,<-h.keeps.len]
 have:=h.le
 omega
theorem dK.start (n:Nat)(h1:1<=n)(h2:n<=60):dK n 0 (aj.fresh n) ⟨[],n,0⟩ [] 0:=by
 have h:=sg n h1 h2
 exact⟨h,⟨h.fit,rfl,rfl,nI rfl uM⟩,Nat.le_refl _⟩
theorem dK.opened {S k:Nat}{d:aj}{j:am}{l:List ar}{n:Nat}(h:dK S k d j l n):eS d=(⟨j.recs.take n,S,n⟩,l.take n,0):=by
 have h1:=h.disk.open
 rw[h.take]at h1
 exact zR h1 (vj h.keeps.kept n)
theorem dK.grown {S k:Nat}{d:aj}{j:am}{l:List ar}{n:Nat}(h:dK S k d j l n){x:ar}{b:List UInt8}(hk:fN S n ⟨j.recs++[b],j.many,j.synced⟩ (l++[x])):dK S k d ⟨j.recs++[b],j.many,j.synced⟩ (l++[x]) n:=by
 refine⟨?_,hk,by have:=h.le;simp;omega⟩
 have h1:=h.disk
 rw[<-List.take_append_of_le_length (l₂:=[b]) (by rw[<-h.keeps.len];exact h.le)]at h1
 exact h1
theorem dK.sync {S k:Nat}{d:aj}{j:am}{l:List ar}{n:Nat}(h:dK S k d j l n)(hk:k<=1000):∃y,iE j d=(⟨j.recs,S,l.length⟩,y,0)/\dK S (k+1) y ⟨j.recs,S,l.length⟩ l l.length/\y.secs.length=S:=by
 rcases tP h.disk hk h.disk.runs rfl h.disk.pend h.keeps.ok h.keeps.many (by rw[h.take];exact h.keeps.synced) (by rw[h.take]) with ⟨y,y1,y2,y3,y4⟩|⟨h0,_⟩
 ·have e:=y3 h.disk.left
  rw[e]at y2
  refine⟨y,by rw[zS h.keeps.ok h.keeps.kept,y1,<-h.keeps.len],⟨?_,⟨?_,rfl,rfl,h.keeps.kept⟩,Nat.le_refl _⟩,y4⟩
  ·rw[List.take_of_length_le (by show j.recs.length<=l.length;rw[h.keeps.len];exact Nat.le_refl _)]
   exact y2
  ·have:=y2.fit
   rw[<-h.keeps.len]at this
   exact this
 ·rw[h.disk.left]at h0
  omega
theorem Ec {d:aj}(h:(eS d).2.2=0):∃l,d.runs=true/\d.pend=[]/\aQ (bN d.secs)=(l,0)/\eS d=(⟨bN d.secs,d.secs.length,(bN d.secs).length⟩,l,0)/\bz l=0/\l.length=(bN d.secs).length:=by
 have ho:(ci d).2=0:=by
  by_cases q:(ci d).2=0
  ·exact q
  ·unfold eS at h
   rw[if_neg q]at h
   exact absurd h q
 have hk:(aQ (ci d).1.recs).2=0:=by
  by_cases q:(aQ (ci d).1.recs).2=0
  ·exact q
  ·unfold eS at h
   rw[if_pos ho,if_neg q]at h
   exact absurd h q
 have hok:d.okB=true:=by
  cases q:d.okB
  ·rw[vU q]at ho;cases ho
  ·rfl
 have hst:d.stopped=false:=by
  cases q:d.stopped
  ·rfl
  ·rw[lh hok q]at ho;cases ho
 have hp:d.pend.length=0:=by
  rcases Nat.eq_zero_or_pos d.pend.length with q|q
  ·exact q
  ·rw[nZ hok hst q]at ho;cases ho
 have he:=nl hok hst hp
 rw[he]at hk
 refine⟨(aQ (bN d.secs)).1,by simp[aj.runs,hok,hst],List.eq_nil_of_length_eq_zero hp,Prod.ext rfl hk,zR he (Prod.ext rfl hk),(k8 (Prod.ext rfl hk)).2,xK (Prod.ext rfl hk)⟩
theorem Ed {d:aj}(h:(eS d).2.2≠0):(eS d).1=.zero/\(eS d).2.1=[]:=by
 unfold eS at h ⊢
 repeat' split
 all_goals first|exact⟨rfl,rfl⟩|skip
 next h1 h2=>rw[if_pos h1,if_pos h2]at h;exact absurd rfl h
def qi : ar:=cm [] 3 [7]
theorem zT : (bE ⟨[],9,0⟩ [] 3 [7]).2.2=0/\(bE ⟨[],1,0⟩ [] 0 (List.replicate 100 0)).2.2=2/\(bu ⟨[],9,0⟩ [1]).2=0/\(⟨[[1]],9,0⟩:am).okB=true/\(aP [1]).isNone=true:=by decide +kernel
structure CF (x odd:am)(y q:aj)(k:am):Prop where
 xw:bE ⟨[],9,0⟩ [] 3 [7]=(x,[qi],0)
 hw:∃z,bE ⟨[],9,0⟩ [qi] 3 []=(z,[],500)
 iw:bE ⟨[],0,0⟩ [] 3 []=(.zero,[],1)
 ks:iE x (aj.fresh 9)=(k,y,0)
 k1:k.synced=1
 yl:y.secs.length=9
 yo:∃z,eS y=(z,[qi],0)
 od:bu ⟨[],9,0⟩ [1]=(odd,0)
 qs:∃z,cC odd (aj.fresh 9)=(z,q,0)
 ql:q.secs.length=9
 qo:eS q=(.zero,[],500)
 vw:bE ⟨[],1,0⟩ [] 0 (List.replicate 100 0)=(.zero,[],2)
theorem vl : ∃x odd y q k,CF x odd y q k:=by
 obtain⟨f1,f2,f3,f4,f5⟩:=zT
 have f3:bu ⟨[],9,0⟩ [1]=(⟨[[1]],9,0⟩,0):=by
  rcases ib (j:=⟨[],9,0⟩) [1] (dK.start 9 om om).keeps.ok with ⟨q,_⟩|⟨q,_⟩
  ·exact q
  ·rw[q]at f3;cases f3
 have f5:aP [1]=none:=by simpa using f5
 have h0:=dK.start 9 om om
 obtain⟨a1,a2,a3,a4,a5,a6⟩:=jN f1
 have hk:fN 9 0 ⟨([]:List (List UInt8))++[fo (cm [] 3 [7])],9,0⟩ ([]++[cm [] 3 [7]]):=⟨a5,rfl,rfl,a6⟩
 have h1:=dK.grown (j:=⟨[],((9:Nat):Int),0⟩) h0 hk
 obtain⟨y,y1,y2,y3⟩:=h1.sync om
 have hs:=sg 9 om om
 rcases tP (j:=⟨[[1]],9,0⟩) hs om hs.runs rfl hs.pend f4 rfl rfl rfl with ⟨q,q1,q2,q3,q4⟩|⟨q0,_⟩
 ·have e:=q3 hs.left
  rw[e]at q2
  refine⟨⟨[]++[fo (cm [] 3 [7])],9,0⟩,⟨[[1]],9,0⟩,y,q,_,⟨a4,?_,?_,y1,rfl,y3,⟨_,y2.opened⟩,f3,⟨_,q1⟩,q4,?_,?_⟩⟩
  ·refine⟨.zero,?_⟩
   have g1:(⟨[],9,0⟩:am).okB=true:=h0.keeps.ok
   have g2:aQ ((⟨[],9,0⟩:am).recs)=([],0):=h0.keeps.kept
   unfold bE
   rw[if_pos (nL g1),if_pos (by rw[g2]),if_neg (by rw[g2];simp[cT])]
  ·have:(⟨[],0,0⟩:am).check≠0:=by decide
   unfold bE
   rw[if_neg this]
   rfl
  ·have h2:=q2.open
   unfold eS
   rw[h2,if_pos rfl]
   have h3:aQ [[1]]=([],500):=by
    unfold aQ
    rw[ef,f5]
    simp
   rw[h3]
   rfl
  ·have h5:=qh (by rw[f2];decide)
   exact Prod.ext h5.1 (Prod.ext h5.2 f2)
 ·rw[hs.left]at q0
  omega
theorem nM {P:Program}{o:Oper}{K0:Act->World->Prop}{Q0:Exit->Act->World->Prop}{a:Act}{w:World}(d:Nat)(R:Value->World->Prop)(_hd:o.dst=some d)
  (hrun:∀(K:Act->World->Prop) (Q:Exit->Act->World->Prop),(∀v w',R v w'->K (a.put (some d) v) w')->o.wp P a w K Q)
  (h:∀v w',R v w'->K0 (a.put (some d) v) w'):o.wp P a w K0 Q0:=hrun _ _ h
end Go.Proofs.YtmflnpdmlfmcpaaGreatDoor.Dr
