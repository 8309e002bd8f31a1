/-
  DERIVED. GIVEN WITH THE SEED: THE CARDS: each row of YtmflnpdmlfmcpaaDoorRows.lean that lists a variable, with what it lists TIED to the program's text (the seventh form; the later family's looks); each row that meets fmt, with fmt's text TOLD by the authors' own Lean function (tested against real Go, not proved from fmt's source: count such statements apart). THE CARD IS WHAT COUNTS. Prove the row's statement (the work); the ties are given (YtmflnpdmlfmcpaaDoorTie.lean); close each card by the builder's one call (the guide's Derived/Test/ToyasCard.lean, 'card_holds'). Laid BY PROGRAM, IN A SANDBOX (cutbox-door.mjs). By AI agents, Wed Nov 11 2026. No macro, syntax, notation, axiom, sorry.
-/
import Derived.Test.YtmflnpdmlfmcpaaDoorRows
import GoSem.ClaimSeven
namespace Go.Proofs.YtmflnpdmlfmcpaaDoor
namespace Rows

/-- THE TIED CARD OF 'frankingtop.TopStore'. -/
def topStoreCard : Claim7 := { stood := { row := topStoreRow, standIns := [], harness := (true, "1f752615d5407108b6d22299638dcb3b1a7bfd48a761d5dfa476226d8ab1d143"), looks := true }, kinds := [], alts := [], laidByText := true, laidKinds := [.data, .data], laidTests := true, laidLooks := .later }
def TopStoreCardSaid : Prop := Claim7.holds Tryd.pinned (.plain (OpenSpec.ofChange topStoreSpec)) topStoreCard

/-- THE TIED CARD OF 'frankinglaw50.StoresKept'. -/
def storesKeptCard : Claim7 := { stood := { row := storesKeptRow, standIns := [], harness := (true, "1f752615d5407108b6d22299638dcb3b1a7bfd48a761d5dfa476226d8ab1d143"), looks := true }, kinds := [], alts := [], laidByText := true, laidKinds := [.data, .data], laidTests := true, laidLooks := .later }
def StoresKeptCardSaid : Prop := Claim7.holds Tryd.pinned (.plain (OpenSpec.ofChange storesKeptSpec)) storesKeptCard

/-- THE TIED CARD OF 'frankinglaw50.StoresDifferent'. -/
def storesDifferentCard : Claim7 := { stood := { row := storesDifferentRow, standIns := [], harness := (true, "1f752615d5407108b6d22299638dcb3b1a7bfd48a761d5dfa476226d8ab1d143"), looks := true }, kinds := [], alts := [], laidByText := true, laidKinds := [.data, .data], laidTests := true, laidLooks := .later }
def StoresDifferentCardSaid : Prop := Claim7.holds Tryd.pinned (.plain (OpenSpec.ofChange storesDifferentSpec)) storesDifferentCard

/-- THE TIED CARD OF 'frankinglaw50.StoresSurvives'. -/
def storesSurvivesCard : Claim7 := { stood := { row := storesSurvivesRow, standIns := [], harness := (true, "1f752615d5407108b6d22299638dcb3b1a7bfd48a761d5dfa476226d8ab1d143"), looks := true }, kinds := [], alts := [], laidByText := true, laidKinds := [.data, .data], laidTests := true, laidLooks := .later }
def StoresSurvivesCardSaid : Prop := Claim7.holds Tryd.pinned (.plain (OpenSpec.ofChange storesSurvivesSpec)) storesSurvivesCard

/-- THE SECOND FORM's CARD OF 'frankingtop.TopStore'. -/
def topStoreUptoCard : Claim7 := { stood := { row := topStoreUptoRow, standIns := [], harness := (true, "1f752615d5407108b6d22299638dcb3b1a7bfd48a761d5dfa476226d8ab1d143"), looks := true }, kinds := [], alts := [], laidByText := true, laidKinds := [.data, .data], laidTests := true, laidLooks := .later }
def TopStoreUptoCardSaid : Prop := Claim7.holds Tryd.pinned (.plain (OpenSpec.upto topStoreSpec)) topStoreUptoCard

/-- THE SECOND FORM's CARD OF 'frankinglaw50.StoresKept'. -/
def storesKeptUptoCard : Claim7 := { stood := { row := storesKeptUptoRow, standIns := [], harness := (true, "1f752615d5407108b6d22299638dcb3b1a7bfd48a761d5dfa476226d8ab1d143"), looks := true }, kinds := [], alts := [], laidByText := true, laidKinds := [.data, .data], laidTests := true, laidLooks := .later }
def StoresKeptUptoCardSaid : Prop := Claim7.holds Tryd.pinned (.plain (OpenSpec.upto storesKeptSpec)) storesKeptUptoCard

/-- THE SECOND FORM's CARD OF 'frankinglaw50.StoresDifferent'. -/
def storesDifferentUptoCard : Claim7 := { stood := { row := storesDifferentUptoRow, standIns := [], harness := (true, "1f752615d5407108b6d22299638dcb3b1a7bfd48a761d5dfa476226d8ab1d143"), looks := true }, kinds := [], alts := [], laidByText := true, laidKinds := [.data, .data], laidTests := true, laidLooks := .later }
def StoresDifferentUptoCardSaid : Prop := Claim7.holds Tryd.pinned (.plain (OpenSpec.upto storesDifferentSpec)) storesDifferentUptoCard

/-- THE SECOND FORM's CARD OF 'frankinglaw50.StoresSurvives'. -/
def storesSurvivesUptoCard : Claim7 := { stood := { row := storesSurvivesUptoRow, standIns := [], harness := (true, "1f752615d5407108b6d22299638dcb3b1a7bfd48a761d5dfa476226d8ab1d143"), looks := true }, kinds := [], alts := [], laidByText := true, laidKinds := [.data, .data], laidTests := true, laidLooks := .later }
def StoresSurvivesUptoCardSaid : Prop := Claim7.holds Tryd.pinned (.plain (OpenSpec.upto storesSurvivesSpec)) storesSurvivesUptoCard
end Rows
end Go.Proofs.YtmflnpdmlfmcpaaDoor
