/-
  DERIVED. GIVEN WITH THE SEED: THE CARDS: each row of YtmhnmelaodhemaaGreatDoorRows.lean that lists a variable, with what it lists TIED to the program's text (the seventh form; the later family's looks); each row that meets fmt, with fmt's text TOLD by the authors' own Lean function (tested against real Go, not proved from fmt's source: count such statements apart). THE CARD IS WHAT COUNTS. Prove the row's statement (the work); the ties are given (YtmhnmelaodhemaaGreatDoorTie.lean); close each card by the builder's one call (the guide's Derived/Test/ToyasCard.lean, 'card_holds'). Laid BY PROGRAM, IN A SANDBOX (cutbox-door.mjs). By AI agents, Wed Nov 11 2026. No macro, syntax, notation, axiom, sorry.
-/
import Derived.Test.YtmhnmelaodhemaaGreatDoorRows
import GoSem.ClaimSeven
namespace Go.Proofs.YtmhnmelaodhemaaGreatDoor
namespace Rows

/-- THE TIED CARD OF 'parallaxlaw12.DeclPrints'. -/
def declPrintsCard : Claim7 := { stood := { row := declPrintsRow, standIns := [], harness := (true, "af45a20a3274a91faaf653a47d4c6cd923ad401fc01814d9b8d800525a0537ff"), looks := true }, kinds := [], alts := [], laidByText := true, laidKinds := [.data, .data], laidTests := true, laidLooks := .later }
def DeclPrintsCardSaid : Prop := Claim7.holds Tryz.pinned (.plain (OpenSpec.ofChange declPrintsSpec)) declPrintsCard

/-- THE TIED CARD OF 'parallaxlaw12.DeclBack'. -/
def declBackCard : Claim7 := { stood := { row := declBackRow, standIns := [], harness := (true, "af45a20a3274a91faaf653a47d4c6cd923ad401fc01814d9b8d800525a0537ff"), looks := true }, kinds := [], alts := [], laidByText := true, laidKinds := [.data, .data], laidTests := true, laidLooks := .later }
def DeclBackCardSaid : Prop := Claim7.holds Tryz.pinned (.plain (OpenSpec.ofChange declBackSpec)) declBackCard

/-- THE TIED CARD OF 'parallaxlaw12.DeclPlaces'. -/
def declPlacesCard : Claim7 := { stood := { row := declPlacesRow, standIns := [], harness := (true, "af45a20a3274a91faaf653a47d4c6cd923ad401fc01814d9b8d800525a0537ff"), looks := true }, kinds := [], alts := [], laidByText := true, laidKinds := [.data, .data], laidTests := true, laidLooks := .later }
def DeclPlacesCardSaid : Prop := Claim7.holds Tryz.pinned (.plain (OpenSpec.ofChange declPlacesSpec)) declPlacesCard

/-- THE TIED CARD OF 'parallaxlaw12.DeclChecks'. -/
def declChecksCard : Claim7 := { stood := { row := declChecksRow, standIns := [], harness := (true, "af45a20a3274a91faaf653a47d4c6cd923ad401fc01814d9b8d800525a0537ff"), looks := true }, kinds := [], alts := [], laidByText := true, laidKinds := [.data, .data], laidTests := true, laidLooks := .later }
def DeclChecksCardSaid : Prop := Claim7.holds Tryz.pinned (.plain (OpenSpec.ofChange declChecksSpec)) declChecksCard

/-- THE TIED CARD OF 'parallaxlaw12.DeclTurned'. -/
def declTurnedCard : Claim7 := { stood := { row := declTurnedRow, standIns := [], harness := (true, "af45a20a3274a91faaf653a47d4c6cd923ad401fc01814d9b8d800525a0537ff"), looks := true }, kinds := [], alts := [], laidByText := true, laidKinds := [.data, .data], laidTests := true, laidLooks := .later }
def DeclTurnedCardSaid : Prop := Claim7.holds Tryz.pinned (.plain (OpenSpec.ofChange declTurnedSpec)) declTurnedCard

/-- THE TIED CARD OF 'parallaxlaw12.DeclLess'. -/
def declLessCard : Claim7 := { stood := { row := declLessRow, standIns := [], harness := (true, "af45a20a3274a91faaf653a47d4c6cd923ad401fc01814d9b8d800525a0537ff"), looks := true }, kinds := [], alts := [], laidByText := true, laidKinds := [.data, .data], laidTests := true, laidLooks := .later }
def DeclLessCardSaid : Prop := Claim7.holds Tryz.pinned (.plain (OpenSpec.ofChange declLessSpec)) declLessCard

/-- THE SECOND FORM's CARD OF 'parallaxlaw12.DeclPrints'. -/
def declPrintsUptoCard : Claim7 := { stood := { row := declPrintsUptoRow, standIns := [], harness := (true, "af45a20a3274a91faaf653a47d4c6cd923ad401fc01814d9b8d800525a0537ff"), looks := true }, kinds := [], alts := [], laidByText := true, laidKinds := [.data, .data], laidTests := true, laidLooks := .later }
def DeclPrintsUptoCardSaid : Prop := Claim7.holds Tryz.pinned (.plain (OpenSpec.upto declPrintsSpec)) declPrintsUptoCard

/-- THE SECOND FORM's CARD OF 'parallaxlaw12.DeclBack'. -/
def declBackUptoCard : Claim7 := { stood := { row := declBackUptoRow, standIns := [], harness := (true, "af45a20a3274a91faaf653a47d4c6cd923ad401fc01814d9b8d800525a0537ff"), looks := true }, kinds := [], alts := [], laidByText := true, laidKinds := [.data, .data], laidTests := true, laidLooks := .later }
def DeclBackUptoCardSaid : Prop := Claim7.holds Tryz.pinned (.plain (OpenSpec.upto declBackSpec)) declBackUptoCard

/-- THE SECOND FORM's CARD OF 'parallaxlaw12.DeclPlaces'. -/
def declPlacesUptoCard : Claim7 := { stood := { row := declPlacesUptoRow, standIns := [], harness := (true, "af45a20a3274a91faaf653a47d4c6cd923ad401fc01814d9b8d800525a0537ff"), looks := true }, kinds := [], alts := [], laidByText := true, laidKinds := [.data, .data], laidTests := true, laidLooks := .later }
def DeclPlacesUptoCardSaid : Prop := Claim7.holds Tryz.pinned (.plain (OpenSpec.upto declPlacesSpec)) declPlacesUptoCard

/-- THE SECOND FORM's CARD OF 'parallaxlaw12.DeclChecks'. -/
def declChecksUptoCard : Claim7 := { stood := { row := declChecksUptoRow, standIns := [], harness := (true, "af45a20a3274a91faaf653a47d4c6cd923ad401fc01814d9b8d800525a0537ff"), looks := true }, kinds := [], alts := [], laidByText := true, laidKinds := [.data, .data], laidTests := true, laidLooks := .later }
def DeclChecksUptoCardSaid : Prop := Claim7.holds Tryz.pinned (.plain (OpenSpec.upto declChecksSpec)) declChecksUptoCard

/-- THE SECOND FORM's CARD OF 'parallaxlaw12.DeclTurned'. -/
def declTurnedUptoCard : Claim7 := { stood := { row := declTurnedUptoRow, standIns := [], harness := (true, "af45a20a3274a91faaf653a47d4c6cd923ad401fc01814d9b8d800525a0537ff"), looks := true }, kinds := [], alts := [], laidByText := true, laidKinds := [.data, .data], laidTests := true, laidLooks := .later }
def DeclTurnedUptoCardSaid : Prop := Claim7.holds Tryz.pinned (.plain (OpenSpec.upto declTurnedSpec)) declTurnedUptoCard

/-- THE SECOND FORM's CARD OF 'parallaxlaw12.DeclLess'. -/
def declLessUptoCard : Claim7 := { stood := { row := declLessUptoRow, standIns := [], harness := (true, "af45a20a3274a91faaf653a47d4c6cd923ad401fc01814d9b8d800525a0537ff"), looks := true }, kinds := [], alts := [], laidByText := true, laidKinds := [.data, .data], laidTests := true, laidLooks := .later }
def DeclLessUptoCardSaid : Prop := Claim7.holds Tryz.pinned (.plain (OpenSpec.upto declLessSpec)) declLessUptoCard
end Rows
end Go.Proofs.YtmhnmelaodhemaaGreatDoor
