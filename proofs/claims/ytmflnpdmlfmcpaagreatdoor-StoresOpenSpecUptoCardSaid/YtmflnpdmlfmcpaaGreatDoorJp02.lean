/- Joined texts. -/
import Derived.Test.YtmflnpdmlfmcpaaGreatDoorJp00
set_option maxRecDepth 100000
set_option maxHeartbeats 4000000
namespace Go.Proofs.YtmflnpdmlfmcpaaGreatDoor
open Go.RowKit
variable {Nz : Nat}
theorem pH (l:List UInt8):(aw l).toList=l:=by simp[aw]
theorem qQ (a:Option Addr)(n c:Nat)(b:Option Addr)(m d:Nat)(l l':List (List UInt8))(w:World)(hn:n<=5000)(h:Sl 1 (aN Nz) w a n l)(h':Sl 1 (aN Nz) w b m l')(hm:m<=maxLen) :
  Calls Tryz.prog 30 #[.slice a n c,.slice b m d] w fun e w'=>e=.returned (.bool (decide (l=l')))/\Below w.heap.size w w':=by
 have HL:=aa h.len
 have HM:=aa h'.len
 unfold maxLen at hm
 go_enter Tryz.func30,Tryz.ntmps30
 by_cases hnm:n=m
 ·subst hnm
  have fin:l.take n=l'.take n->decide (l=l')=true:=fun this=>by
   rw[List.take_of_length_le (by have:=HL.out;omega),List.take_of_length_le (by have:=HM.out;omega)]at this
   simp[this]
  have FIN:=aa fin
  have HC:=aa h.secs
  have HC':=aa h'.secs
  clear h h' fin
  go_wp2
  go_loopw [5] (fun i wr=>∃k:Nat,k<=n/\i=.int .i64 k/\l.take k=l'.take k/\Below w.heap.size w wr) (fun i _=>n-(intOf i).toNat)
  case atStart=>exact⟨0,Nat.zero_le _,rfl,by simp,Below.refl _ _⟩
  case round =>
   obtain⟨k,hk,rfl,hpre,hB⟩:=hrel
   have HPRE:=aa hpre
   clear hpre
   by_cases hlt:k<n
   ·rcases HC.out with h0|⟨f,o,rfl,hc⟩
    ·omega
    rcases HC'.out with h0|⟨f',o',rfl,hc'⟩
    ·omega
    obtain⟨x,hx⟩:=av HL.out hlt
    obtain⟨y,hy⟩:=av HM.out hlt
    obtain⟨xa,xn,xc,_,_,hxs,hcell⟩:=hc k x hx
    obtain⟨ya,yn,yc,_,_,hys,hdell⟩:=hc' k y hy
    have s1:=ag hB hcell
    have s2:=ag hB hdell
    have t1:∀q,(convert 40 9 (.slice xa xn xc)).run Tryz.prog (wr.drewN q)=.ok (.string (aw x)) (wr.drewN q):=fun q=>l9 hxs (below_drewN hB q)
    have t2:∀q,(convert 40 9 (.slice ya yn yc)).run Tryz.prog (wr.drewN q)=.ok (.string (aw y)) (wr.drewN q):=fun q=>l9 hys (below_drewN hB q)
    have k0:(0:Int)<=(k:Int):=om
    have k1':(k:Int)<(n:Int):=om
    have HX:=aa hx
    have HY:=aa hy
    clear hx hy hxs hys hc hc' hcell hdell
    by_cases hxy:x=y
    ·have HN:Hid (l.take (k+1)=l'.take (k+1)):=by
      show _=_
      rw[cp l k x HX.out,cp l' k y HY.out,HPRE.out,hxy]
     subst hxy
     go_wp2
     go_quiet (fail)
     go_wp2
     go_roundw
     case rel=>exact⟨k+1,om,by go_num,HN.out,below_drewN hB nq⟩
     case measure=>simp[intOf];omega
    ·have hs:((aw x).toList == (aw y).toList)=false:=by rw[pH,pH];simpa using hxy
     have HN:Hid (decide (l=l')=false):=by
      show _=_
      refine decide_eq_false ?_
      rintro rfl
      have:=HX.out.symm.trans HY.out
      simp only[Option.some.injEq]at this
      exact hxy this
     clear hxy
     go_wp2
     go_quiet (fail)
     go_wp2
     go_ret
     exact⟨bK HN.out.symm,below_drewN hB nq⟩
   ·obtain rfl:k=n:=om
    clear HC HC'
    go_wp2
    go_ret
    exact⟨bK (FIN.out HPRE.out).symm,hB⟩
 ·have HN:Hid (decide (l=l')=false):=by
   show _=_
   refine decide_eq_false ?_
   rintro rfl
   exact hnm (HL.out.symm.trans HM.out)
  clear h h'
  go_wp2
  go_ret
  exact⟨bK HN.out.symm,Below.refl _ _⟩
end Go.Proofs.YtmflnpdmlfmcpaaGreatDoor
