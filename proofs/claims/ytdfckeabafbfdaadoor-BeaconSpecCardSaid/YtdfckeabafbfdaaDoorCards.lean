/-
  DERIVED. GIVEN WITH THE SEED: THE CARDS: each row of YtdfckeabafbfdaaDoorRows.lean that lists a variable, with what it lists TIED to the program's text (the seventh form; the later family's looks); each row that meets fmt, with fmt's text TOLD by the authors' own Lean function (tested against real Go, not proved from fmt's source: count such statements apart). THE CARD IS WHAT COUNTS. Prove the row's statement (the work); the ties are given (YtdfckeabafbfdaaDoorTie.lean); close each card by the builder's one call (the guide's Derived/Test/ToyasCard.lean, 'card_holds'). Laid BY PROGRAM, IN A SANDBOX (cutbox-door.mjs). By AI agents, Wed Nov 11 2026. No macro, syntax, notation, axiom, sorry.
-/
import Derived.Test.YtdfckeabafbfdaaDoorRows
import GoSem.ClaimSeven
namespace Go.Proofs.YtdfckeabafbfdaaDoor
namespace Rows

/-- THE TIED CARD OF 'frankinglaw08.ChainAddSpec'. -/
def chainAddSpecCard : Claim7 := { stood := { row := chainAddSpecRow, standIns := [], harness := (true, "436a71500f04519d11800c7206449cb18e0c9ee68212fe717bea21a8430a21b9"), looks := true }, kinds := [], alts := [], laidByText := true, laidKinds := [.data, .data], laidTests := true, laidLooks := .later }
def ChainAddSpecCardSaid : Prop := Claim7.holds Tryd.pinned (.plain (OpenSpec.ofChange chainAddSpecSpec)) chainAddSpecCard

/-- THE TIED CARD OF 'frankinglaw08.ChainBuilt'. -/
def chainBuiltCard : Claim7 := { stood := { row := chainBuiltRow, standIns := [], harness := (true, "436a71500f04519d11800c7206449cb18e0c9ee68212fe717bea21a8430a21b9"), looks := true }, kinds := [], alts := [], laidByText := true, laidKinds := [.data, .data], laidTests := true, laidLooks := .later }
def ChainBuiltCardSaid : Prop := Claim7.holds Tryd.pinned (.plain (OpenSpec.ofChange chainBuiltSpec)) chainBuiltCard

/-- THE TIED CARD OF 'frankinglaw08.ChainEqual'. -/
def chainEqualCard : Claim7 := { stood := { row := chainEqualRow, standIns := [], harness := (true, "436a71500f04519d11800c7206449cb18e0c9ee68212fe717bea21a8430a21b9"), looks := true }, kinds := [], alts := [], laidByText := true, laidKinds := [.data, .data], laidTests := true, laidLooks := .later }
def ChainEqualCardSaid : Prop := Claim7.holds Tryd.pinned (.plain (OpenSpec.ofChange chainEqualSpec)) chainEqualCard

/-- THE TIED CARD OF 'frankinglaw08.ChainChanged'. -/
def chainChangedCard : Claim7 := { stood := { row := chainChangedRow, standIns := [], harness := (true, "436a71500f04519d11800c7206449cb18e0c9ee68212fe717bea21a8430a21b9"), looks := true }, kinds := [], alts := [], laidByText := true, laidKinds := [.data, .data], laidTests := true, laidLooks := .later }
def ChainChangedCardSaid : Prop := Claim7.holds Tryd.pinned (.plain (OpenSpec.ofChange chainChangedSpec)) chainChangedCard

/-- THE TIED CARD OF 'frankinglaw08.ChainParts'. -/
def chainPartsCard : Claim7 := { stood := { row := chainPartsRow, standIns := [], harness := (true, "436a71500f04519d11800c7206449cb18e0c9ee68212fe717bea21a8430a21b9"), looks := true }, kinds := [], alts := [], laidByText := true, laidKinds := [.data, .data], laidTests := true, laidLooks := .later }
def ChainPartsCardSaid : Prop := Claim7.holds Tryd.pinned (.plain (OpenSpec.ofChange chainPartsSpec)) chainPartsCard

/-- THE TIED CARD OF 'frankinglaw13.BeaconSpec'. -/
def beaconSpecCard : Claim7 := { stood := { row := beaconSpecRow, standIns := [], harness := (true, "436a71500f04519d11800c7206449cb18e0c9ee68212fe717bea21a8430a21b9"), looks := true }, kinds := [], alts := [], laidByText := true, laidKinds := [.data, .data], laidTests := true, laidLooks := .later }
def BeaconSpecCardSaid : Prop := Claim7.holds Tryd.pinned (.plain (OpenSpec.ofChange beaconSpecSpec)) beaconSpecCard

/-- THE TIED CARD OF 'frankinglaw13.BeaconBitsSpec'. -/
def beaconBitsSpecCard : Claim7 := { stood := { row := beaconBitsSpecRow, standIns := [], harness := (true, "436a71500f04519d11800c7206449cb18e0c9ee68212fe717bea21a8430a21b9"), looks := true }, kinds := [], alts := [], laidByText := true, laidKinds := [.data, .data], laidTests := true, laidLooks := .later }
def BeaconBitsSpecCardSaid : Prop := Claim7.holds Tryd.pinned (.plain (OpenSpec.ofChange beaconBitsSpecSpec)) beaconBitsSpecCard

/-- THE TIED CARD OF 'frankinglaw13.BeaconMissing'. -/
def beaconMissingCard : Claim7 := { stood := { row := beaconMissingRow, standIns := [], harness := (true, "436a71500f04519d11800c7206449cb18e0c9ee68212fe717bea21a8430a21b9"), looks := true }, kinds := [], alts := [], laidByText := true, laidKinds := [.data, .data], laidTests := true, laidLooks := .later }
def BeaconMissingCardSaid : Prop := Claim7.holds Tryd.pinned (.plain (OpenSpec.ofChange beaconMissingSpec)) beaconMissingCard

/-- THE TIED CARD OF 'frankinglaw13.BeaconFixed'. -/
def beaconFixedCard : Claim7 := { stood := { row := beaconFixedRow, standIns := [], harness := (true, "436a71500f04519d11800c7206449cb18e0c9ee68212fe717bea21a8430a21b9"), looks := true }, kinds := [], alts := [], laidByText := true, laidKinds := [.data, .data], laidTests := true, laidLooks := .later }
def BeaconFixedCardSaid : Prop := Claim7.holds Tryd.pinned (.plain (OpenSpec.ofChange beaconFixedSpec)) beaconFixedCard

/-- THE TIED CARD OF 'frankinglaw13.BeaconOpened'. -/
def beaconOpenedCard : Claim7 := { stood := { row := beaconOpenedRow, standIns := [], harness := (true, "436a71500f04519d11800c7206449cb18e0c9ee68212fe717bea21a8430a21b9"), looks := true }, kinds := [], alts := [], laidByText := true, laidKinds := [.data, .data], laidTests := true, laidLooks := .later }
def BeaconOpenedCardSaid : Prop := Claim7.holds Tryd.pinned (.plain (OpenSpec.ofChange beaconOpenedSpec)) beaconOpenedCard

/-- THE TIED CARD OF 'frankinglaw13.BeaconIdle'. -/
def beaconIdleCard : Claim7 := { stood := { row := beaconIdleRow, standIns := [], harness := (true, "436a71500f04519d11800c7206449cb18e0c9ee68212fe717bea21a8430a21b9"), looks := true }, kinds := [], alts := [], laidByText := true, laidKinds := [.data, .data], laidTests := true, laidLooks := .later }
def BeaconIdleCardSaid : Prop := Claim7.holds Tryd.pinned (.plain (OpenSpec.ofChange beaconIdleSpec)) beaconIdleCard

/-- THE TIED CARD OF 'frankinglaw13.BeaconFirst'. -/
def beaconFirstCard : Claim7 := { stood := { row := beaconFirstRow, standIns := [], harness := (true, "436a71500f04519d11800c7206449cb18e0c9ee68212fe717bea21a8430a21b9"), looks := true }, kinds := [], alts := [], laidByText := true, laidKinds := [.data, .data], laidTests := true, laidLooks := .later }
def BeaconFirstCardSaid : Prop := Claim7.holds Tryd.pinned (.plain (OpenSpec.ofChange beaconFirstSpec)) beaconFirstCard

/-- THE SECOND FORM's CARD OF 'frankinglaw08.ChainAddSpec'. -/
def chainAddSpecUptoCard : Claim7 := { stood := { row := chainAddSpecUptoRow, standIns := [], harness := (true, "436a71500f04519d11800c7206449cb18e0c9ee68212fe717bea21a8430a21b9"), looks := true }, kinds := [], alts := [], laidByText := true, laidKinds := [.data, .data], laidTests := true, laidLooks := .later }
def ChainAddSpecUptoCardSaid : Prop := Claim7.holds Tryd.pinned (.plain (OpenSpec.upto chainAddSpecSpec)) chainAddSpecUptoCard

/-- THE SECOND FORM's CARD OF 'frankinglaw08.ChainBuilt'. -/
def chainBuiltUptoCard : Claim7 := { stood := { row := chainBuiltUptoRow, standIns := [], harness := (true, "436a71500f04519d11800c7206449cb18e0c9ee68212fe717bea21a8430a21b9"), looks := true }, kinds := [], alts := [], laidByText := true, laidKinds := [.data, .data], laidTests := true, laidLooks := .later }
def ChainBuiltUptoCardSaid : Prop := Claim7.holds Tryd.pinned (.plain (OpenSpec.upto chainBuiltSpec)) chainBuiltUptoCard

/-- THE SECOND FORM's CARD OF 'frankinglaw08.ChainEqual'. -/
def chainEqualUptoCard : Claim7 := { stood := { row := chainEqualUptoRow, standIns := [], harness := (true, "436a71500f04519d11800c7206449cb18e0c9ee68212fe717bea21a8430a21b9"), looks := true }, kinds := [], alts := [], laidByText := true, laidKinds := [.data, .data], laidTests := true, laidLooks := .later }
def ChainEqualUptoCardSaid : Prop := Claim7.holds Tryd.pinned (.plain (OpenSpec.upto chainEqualSpec)) chainEqualUptoCard

/-- THE SECOND FORM's CARD OF 'frankinglaw08.ChainChanged'. -/
def chainChangedUptoCard : Claim7 := { stood := { row := chainChangedUptoRow, standIns := [], harness := (true, "436a71500f04519d11800c7206449cb18e0c9ee68212fe717bea21a8430a21b9"), looks := true }, kinds := [], alts := [], laidByText := true, laidKinds := [.data, .data], laidTests := true, laidLooks := .later }
def ChainChangedUptoCardSaid : Prop := Claim7.holds Tryd.pinned (.plain (OpenSpec.upto chainChangedSpec)) chainChangedUptoCard

/-- THE SECOND FORM's CARD OF 'frankinglaw08.ChainParts'. -/
def chainPartsUptoCard : Claim7 := { stood := { row := chainPartsUptoRow, standIns := [], harness := (true, "436a71500f04519d11800c7206449cb18e0c9ee68212fe717bea21a8430a21b9"), looks := true }, kinds := [], alts := [], laidByText := true, laidKinds := [.data, .data], laidTests := true, laidLooks := .later }
def ChainPartsUptoCardSaid : Prop := Claim7.holds Tryd.pinned (.plain (OpenSpec.upto chainPartsSpec)) chainPartsUptoCard

/-- THE SECOND FORM's CARD OF 'frankinglaw13.BeaconSpec'. -/
def beaconSpecUptoCard : Claim7 := { stood := { row := beaconSpecUptoRow, standIns := [], harness := (true, "436a71500f04519d11800c7206449cb18e0c9ee68212fe717bea21a8430a21b9"), looks := true }, kinds := [], alts := [], laidByText := true, laidKinds := [.data, .data], laidTests := true, laidLooks := .later }
def BeaconSpecUptoCardSaid : Prop := Claim7.holds Tryd.pinned (.plain (OpenSpec.upto beaconSpecSpec)) beaconSpecUptoCard

/-- THE SECOND FORM's CARD OF 'frankinglaw13.BeaconBitsSpec'. -/
def beaconBitsSpecUptoCard : Claim7 := { stood := { row := beaconBitsSpecUptoRow, standIns := [], harness := (true, "436a71500f04519d11800c7206449cb18e0c9ee68212fe717bea21a8430a21b9"), looks := true }, kinds := [], alts := [], laidByText := true, laidKinds := [.data, .data], laidTests := true, laidLooks := .later }
def BeaconBitsSpecUptoCardSaid : Prop := Claim7.holds Tryd.pinned (.plain (OpenSpec.upto beaconBitsSpecSpec)) beaconBitsSpecUptoCard

/-- THE SECOND FORM's CARD OF 'frankinglaw13.BeaconMissing'. -/
def beaconMissingUptoCard : Claim7 := { stood := { row := beaconMissingUptoRow, standIns := [], harness := (true, "436a71500f04519d11800c7206449cb18e0c9ee68212fe717bea21a8430a21b9"), looks := true }, kinds := [], alts := [], laidByText := true, laidKinds := [.data, .data], laidTests := true, laidLooks := .later }
def BeaconMissingUptoCardSaid : Prop := Claim7.holds Tryd.pinned (.plain (OpenSpec.upto beaconMissingSpec)) beaconMissingUptoCard

/-- THE SECOND FORM's CARD OF 'frankinglaw13.BeaconFixed'. -/
def beaconFixedUptoCard : Claim7 := { stood := { row := beaconFixedUptoRow, standIns := [], harness := (true, "436a71500f04519d11800c7206449cb18e0c9ee68212fe717bea21a8430a21b9"), looks := true }, kinds := [], alts := [], laidByText := true, laidKinds := [.data, .data], laidTests := true, laidLooks := .later }
def BeaconFixedUptoCardSaid : Prop := Claim7.holds Tryd.pinned (.plain (OpenSpec.upto beaconFixedSpec)) beaconFixedUptoCard

/-- THE SECOND FORM's CARD OF 'frankinglaw13.BeaconOpened'. -/
def beaconOpenedUptoCard : Claim7 := { stood := { row := beaconOpenedUptoRow, standIns := [], harness := (true, "436a71500f04519d11800c7206449cb18e0c9ee68212fe717bea21a8430a21b9"), looks := true }, kinds := [], alts := [], laidByText := true, laidKinds := [.data, .data], laidTests := true, laidLooks := .later }
def BeaconOpenedUptoCardSaid : Prop := Claim7.holds Tryd.pinned (.plain (OpenSpec.upto beaconOpenedSpec)) beaconOpenedUptoCard

/-- THE SECOND FORM's CARD OF 'frankinglaw13.BeaconIdle'. -/
def beaconIdleUptoCard : Claim7 := { stood := { row := beaconIdleUptoRow, standIns := [], harness := (true, "436a71500f04519d11800c7206449cb18e0c9ee68212fe717bea21a8430a21b9"), looks := true }, kinds := [], alts := [], laidByText := true, laidKinds := [.data, .data], laidTests := true, laidLooks := .later }
def BeaconIdleUptoCardSaid : Prop := Claim7.holds Tryd.pinned (.plain (OpenSpec.upto beaconIdleSpec)) beaconIdleUptoCard

/-- THE SECOND FORM's CARD OF 'frankinglaw13.BeaconFirst'. -/
def beaconFirstUptoCard : Claim7 := { stood := { row := beaconFirstUptoRow, standIns := [], harness := (true, "436a71500f04519d11800c7206449cb18e0c9ee68212fe717bea21a8430a21b9"), looks := true }, kinds := [], alts := [], laidByText := true, laidKinds := [.data, .data], laidTests := true, laidLooks := .later }
def BeaconFirstUptoCardSaid : Prop := Claim7.holds Tryd.pinned (.plain (OpenSpec.upto beaconFirstSpec)) beaconFirstUptoCard
end Rows
end Go.Proofs.YtdfckeabafbfdaaDoor
