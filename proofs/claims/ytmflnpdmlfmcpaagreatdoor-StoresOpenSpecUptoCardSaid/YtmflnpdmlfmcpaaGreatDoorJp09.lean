/- Joined texts. -/
import Derived.Test.YtmflnpdmlfmcpaaGreatDoorJp00
namespace Go.Proofs.YtmflnpdmlfmcpaaGreatDoor
open Go.RowKit
structure aR (w:World) where
 wd:World
 below:Below w.heap.size w wd
instance (w:World):Nonempty (aR w):=⟨⟨w,Below.refl _ _⟩⟩
theorem eu {P:Program}{id:Nat}{Q:Exit->Act->World->Prop}{a:Act}{w:World}{l:List Oper}(hm:P.follows .mixedOrders=true)(hB:Region.lexB .any l.toArray=true)
  (h:wpQuiet P l.toArray (fun w'=>∃z:aR w,w'=z.wd) (fun a'=>∀w',(∃z:aR w,w'=z.wd)->Q .normal a' w') l a):(Code.region id l.toArray true).wp P Q a w:=
 wp_region_quiet (C:=fun w'=>∃z:aR w,w'=z.wd) hm hB ⟨⟨_,(Below.refl _ w).drew⟩,rfl⟩ (by simpa using h)
theorem dC {P:Program}{f:FuncId}{args:Array Value}{w:World}{z:aR w}{v:Value}(h:Calls P f args z.wd fun e w'=>e=.returned v/\Below z.wd.heap.size z.wd w') :
  Calls P f args z.wd fun e w''=>e=.returned v/\∃y:aR w,w''=y.wd:=h.mono fun _ w' ⟨he,hb⟩=>⟨he,⟨w',z.below.trans (hb.mono z.below.size)⟩,rfl⟩
theorem ca {P:Program}{f:FuncId}{args:Array Value}{w:World}{z:aR w}{v:Value}(h:Calls P f args z.wd fun e w'=>e=.returned v/\z.wd=w') :
  Calls P f args z.wd fun e w''=>e=.returned v/\∃y:aR w,w''=y.wd:=h.mono fun _ _ ⟨he,hb⟩=>⟨he,z,hb.symm⟩
end Go.Proofs.YtmflnpdmlfmcpaaGreatDoor
