/-
  DERIVED. GIVEN WITH THE SEED: THE CARDS: each row of YtmhnmelaodhemaaDoorRows.lean that lists a variable, with what it lists TIED to the program's text (the seventh form; the later family's looks); each row that meets fmt, with fmt's text TOLD by the authors' own Lean function (tested against real Go, not proved from fmt's source: count such statements apart). THE CARD IS WHAT COUNTS. Prove the row's statement (the work); the ties are given (YtmhnmelaodhemaaDoorTie.lean); close each card by the builder's one call (the guide's Derived/Test/ToyasCard.lean, 'card_holds'). Laid BY PROGRAM, IN A SANDBOX (cutbox-door.mjs). By AI agents, Wed Nov 11 2026. No macro, syntax, notation, axiom, sorry.
-/
import Derived.Test.YtmhnmelaodhemaaDoorRows
import GoSem.ClaimSeven
namespace Go.Proofs.YtmhnmelaodhemaaDoor
namespace Rows

/-- THE TIED CARD OF 'parallaxlaw12.DeclStable'. -/
def declStableCard : Claim7 := { stood := { row := declStableRow, standIns := [], harness := (true, "fbe99146ecad091773a8358baa95efd6c1a5787f42234a81f239fa307a9268d1"), looks := true }, kinds := [], alts := [], laidByText := true, laidKinds := [.data, .data], laidTests := true, laidLooks := .later }
def DeclStableCardSaid : Prop := Claim7.holds Tryd.pinned (.plain (OpenSpec.ofChange declStableSpec)) declStableCard

/-- THE TIED CARD OF 'parallaxlaw12.DeclMany'. -/
def declManyCard : Claim7 := { stood := { row := declManyRow, standIns := [], harness := (true, "fbe99146ecad091773a8358baa95efd6c1a5787f42234a81f239fa307a9268d1"), looks := true }, kinds := [], alts := [], laidByText := true, laidKinds := [.data, .data], laidTests := true, laidLooks := .later }
def DeclManyCardSaid : Prop := Claim7.holds Tryd.pinned (.plain (OpenSpec.ofChange declManySpec)) declManyCard

/-- THE SECOND FORM's CARD OF 'parallaxlaw12.DeclStable'. -/
def declStableUptoCard : Claim7 := { stood := { row := declStableUptoRow, standIns := [], harness := (true, "fbe99146ecad091773a8358baa95efd6c1a5787f42234a81f239fa307a9268d1"), looks := true }, kinds := [], alts := [], laidByText := true, laidKinds := [.data, .data], laidTests := true, laidLooks := .later }
def DeclStableUptoCardSaid : Prop := Claim7.holds Tryd.pinned (.plain (OpenSpec.upto declStableSpec)) declStableUptoCard

/-- THE SECOND FORM's CARD OF 'parallaxlaw12.DeclMany'. -/
def declManyUptoCard : Claim7 := { stood := { row := declManyUptoRow, standIns := [], harness := (true, "fbe99146ecad091773a8358baa95efd6c1a5787f42234a81f239fa307a9268d1"), looks := true }, kinds := [], alts := [], laidByText := true, laidKinds := [.data, .data], laidTests := true, laidLooks := .later }
def DeclManyUptoCardSaid : Prop := Claim7.holds Tryd.pinned (.plain (OpenSpec.upto declManySpec)) declManyUptoCard
end Rows
end Go.Proofs.YtmhnmelaodhemaaDoor
