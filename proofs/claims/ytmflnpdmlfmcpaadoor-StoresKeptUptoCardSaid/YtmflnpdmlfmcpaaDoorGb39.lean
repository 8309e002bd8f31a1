/- The texts SuD of this seat, joined. No condition beyond what each theorem states. -/
import Derived.Test.YtmflnpdmlfmcpaaDoorGb36
import Derived.Test.YtmflnpdmlfmcpaaDoorGb38
import Derived.Test.YtmflnpdmlfmcpaaDoorGb22
import Derived.Deep.DeepCutAuto
/- The contract of written of the package of the statements across layers. Plain theorems; no condition beyond the bounds that each states. -/
namespace Go.Proofs.YtmflnpdmlfmcpaaDoor.Dr
open Go.RowKit Go.Shelf
theorem hold_mid {P : Program} {o : Oper} {K0 : Act → World → Prop} {Q0 : Exit → Act → World → Prop} {a : Act} {w : World} (d : Nat) (R : Value → World → Prop) (_hd : o.dst = some d)
    (hrun : ∀ (K : Act → World → Prop) (Q : Exit → Act → World → Prop), (∀ v w', R v w' → K (a.put (some d) v) w') → o.wp P a w K Q)
    (h : ∀ v w', R v w' → K0 (a.put (some d) v) w') : o.wp P a w K0 Q0 := hrun _ _ h
end Go.Proofs.YtmflnpdmlfmcpaaDoor.Dr
