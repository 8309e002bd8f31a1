/-
  DERIVED. GIVEN WITH THE SEED: THE CARDS: each row of YtmflnpdmlfmcpaaGreatDoorRows.lean that lists a variable, with what it lists TIED to the program's text (the seventh form; the later family's looks); each row that meets fmt, with fmt's text TOLD by the authors' own Lean function (tested against real Go, not proved from fmt's source: count such statements apart). THE CARD IS WHAT COUNTS. Prove the row's statement (the work); the ties are given (YtmflnpdmlfmcpaaGreatDoorTie.lean); close each card by the builder's one call (the guide's Derived/Test/ToyasCard.lean, 'card_holds'). Laid BY PROGRAM, IN A SANDBOX (cutbox-door.mjs). By AI agents, Wed Nov 11 2026. No macro, syntax, notation, axiom, sorry.
-/
import Derived.Test.YtmflnpdmlfmcpaaGreatDoorRows
import GoSem.ClaimSeven
namespace Go.Proofs.YtmflnpdmlfmcpaaGreatDoor
namespace Rows

/-- THE TIED CARD OF 'frankinglaw50.StoresOpenSpec'. -/
def storesOpenSpecCard : Claim7 := { stood := { row := storesOpenSpecRow, standIns := [], harness := (true, "dffe120b7d48a1479ade6629b5e7989fbcbcae2c8a85c6baa6bff8446c7898bd"), looks := true }, kinds := [], alts := [], laidByText := true, laidKinds := [.data, .data], laidTests := true, laidLooks := .later }
def StoresOpenSpecCardSaid : Prop := Claim7.holds Tryz.pinned (.plain (OpenSpec.ofChange storesOpenSpecSpec)) storesOpenSpecCard

/-- THE TIED CARD OF 'frankinglaw50.StoresWriteSpec'. -/
def storesWriteSpecCard : Claim7 := { stood := { row := storesWriteSpecRow, standIns := [], harness := (true, "dffe120b7d48a1479ade6629b5e7989fbcbcae2c8a85c6baa6bff8446c7898bd"), looks := true }, kinds := [], alts := [], laidByText := true, laidKinds := [.data, .data], laidTests := true, laidLooks := .later }
def StoresWriteSpecCardSaid : Prop := Claim7.holds Tryz.pinned (.plain (OpenSpec.ofChange storesWriteSpecSpec)) storesWriteSpecCard

/-- THE SECOND FORM's CARD OF 'frankinglaw50.StoresOpenSpec'. -/
def storesOpenSpecUptoCard : Claim7 := { stood := { row := storesOpenSpecUptoRow, standIns := [], harness := (true, "dffe120b7d48a1479ade6629b5e7989fbcbcae2c8a85c6baa6bff8446c7898bd"), looks := true }, kinds := [], alts := [], laidByText := true, laidKinds := [.data, .data], laidTests := true, laidLooks := .later }
def StoresOpenSpecUptoCardSaid : Prop := Claim7.holds Tryz.pinned (.plain (OpenSpec.upto storesOpenSpecSpec)) storesOpenSpecUptoCard

/-- THE SECOND FORM's CARD OF 'frankinglaw50.StoresWriteSpec'. -/
def storesWriteSpecUptoCard : Claim7 := { stood := { row := storesWriteSpecUptoRow, standIns := [], harness := (true, "dffe120b7d48a1479ade6629b5e7989fbcbcae2c8a85c6baa6bff8446c7898bd"), looks := true }, kinds := [], alts := [], laidByText := true, laidKinds := [.data, .data], laidTests := true, laidLooks := .later }
def StoresWriteSpecUptoCardSaid : Prop := Claim7.holds Tryz.pinned (.plain (OpenSpec.upto storesWriteSpecSpec)) storesWriteSpecUptoCard
end Rows
end Go.Proofs.YtmflnpdmlfmcpaaGreatDoor
