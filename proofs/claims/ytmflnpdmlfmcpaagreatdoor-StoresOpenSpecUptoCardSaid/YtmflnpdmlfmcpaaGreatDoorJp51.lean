/- Joined texts. -/
import Derived.Test.YtmflnpdmlfmcpaaGreatDoorJp13
import Derived.Test.YtmflnpdmlfmcpaaGreatDoorJp34
import Derived.Lay
import Derived.LaidHandle
import Derived.Lib.LaidTab
import Derived.MakeChecks
import Derived.LaidSub
set_option maxRecDepth 100000
namespace Go.Proofs.YtmflnpdmlfmcpaaGreatDoor.Dr
open Go.RowKit Go.ChangeShapes Go.WideShapes Go.ChangeAt Go.Deep Go.Joins
section
variable {H : Type} {enc : TypeId × Value -> H} {P : Program}
theorem ev {W:World}{held:Bool}{e:TypeId}(he:P.underlying e=some (.int .u8))(n:Nat)(cs:List Value)(z:DataW H × List MemPlace)(h:DataW.trod enc P W 0 (fun _=>true) held n e cs=some z):∃x,ai W cs x:=by
 obtain⟨i,h1,_,h2⟩:=DataW.trod_int he h
 obtain⟨g1,g2⟩:=bounds_u8 h2
 refine⟨UInt8.ofNat i.toNat,?_⟩
 show cs=_
 rw[h1]
 congr 2
 rw[UInt8.toNat_ofNat']
 omega
end
section
variable {H : Type} {enc : TypeId × Value -> H}
end
abbrev uG : List (String × DataW Unit):=[("franking/digest.start",Rows.laid_franking_digest_start),("franking/digest.numbers",Rows.laid_franking_digest_numbers)]
def qG : List Int:=(dv bI).map fun x=>(wv x:Int)
def oI : List Int:=Kl.map fun x=>(wv x:Int)
theorem wW : qG.length=8:=rfl
theorem uH : oI.length=64:=by decide +kernel
theorem yY : ∀i,i<8->qG.getD i 0=wv ((dv bI).getD i 0):=by decide +kernel
theorem wX : ∀i,i<64->oI.getD i 0=wv (Kl.getD i 0):=by decide +kernel
theorem uI : (Rows.laid_franking_digest_start:DataW Unit)=Lib.tabData .u32 qG:=kr
theorem rH : (Rows.laid_franking_digest_numbers:DataW Unit)=Lib.tabData .u32 oI:=kr
theorem rI {W:World}(h:laidMetH Tryz.prog uG W):dV W:=by
 rw[MakeChecks.laidMetH_plain _ _ _ kr]at h
 have g0:Tryz.prog.globalNamed "franking/digest.start" = some 0:=kr
 have g1:Tryz.prog.globalNamed "franking/digest.numbers" = some 1:=kr
 have t0:=Lib.tabIs_of_head (k:=.u32) (zs:=qG) (rest:=[("franking/digest.numbers",Rows.laid_franking_digest_numbers)]) (t:=149) (e:=117) g0 kr Tryz.underlying149 Tryz.underlying117 kr kr (by rw[<-uI];exact h)
 have t1:=Lib.tabIs_of_head (k:=.u32) (zs:=oI) (rest:=[]) (t:=171) (e:=117) g1 kr Tryz.underlying171 Tryz.underlying117 kr kr (by rw[<-rH];exact laidMet.filter (fun x=>x.1 == "franking/digest.numbers") h)
 refine⟨fun i u hu => ?_,fun t ht => ?_⟩
 ·have hi:i<8:=(List.getElem?_eq_some_iff.1 hu).1
  rw[t0.cell g0 i (by rw[wW];exact hi),<-hu,ph _ hi,yY i hi]
 ·rw[t1.cell g1 t (by rw[uH];exact ht),wX t ht]
end Go.Proofs.YtmflnpdmlfmcpaaGreatDoor.Dr
