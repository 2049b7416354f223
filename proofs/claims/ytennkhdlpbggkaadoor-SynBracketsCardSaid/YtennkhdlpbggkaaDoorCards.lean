/-
  DERIVED. GIVEN WITH THE SEED: THE CARDS: each row of YtennkhdlpbggkaaDoorRows.lean that lists a variable, with what it lists TIED to the program's text (the seventh form; the later family's looks); each row that meets fmt, with fmt's text TOLD by the authors' own Lean function (tested against real Go, not proved from fmt's source: count such statements apart). THE CARD IS WHAT COUNTS. Prove the row's statement (the work); the ties are given (YtennkhdlpbggkaaDoorTie.lean); close each card by the builder's one call (the guide's Derived/Test/ToyasCard.lean, 'card_holds'). Laid BY PROGRAM, IN A SANDBOX (cutbox-door.mjs). By AI agents, Wed Nov 11 2026. No macro, syntax, notation, axiom, sorry.
-/
import Derived.Test.YtennkhdlpbggkaaDoorRows
import GoSem.ClaimSeven
namespace Go.Proofs.YtennkhdlpbggkaaDoor
namespace Rows

/-- THE TIED CARD OF 'parallaxlaw03.SynStable'. -/
def synStableCard : Claim7 := { stood := { row := synStableRow, standIns := [], harness := (true, "ce9fbdb7ce7820b4ab32dad704b734f501682c71ec0e4a2ad38a4250d3993ad2"), looks := true }, kinds := [], alts := [], laidByText := true, laidKinds := [.data, .data], laidTests := true, laidLooks := .later }
def SynStableCardSaid : Prop := Claim7.holds Tryd.pinned (.plain (OpenSpec.ofChange synStableSpec)) synStableCard

/-- THE TIED CARD OF 'parallaxlaw03.SynBrackets'. -/
def synBracketsCard : Claim7 := { stood := { row := synBracketsRow, standIns := [], harness := (true, "ce9fbdb7ce7820b4ab32dad704b734f501682c71ec0e4a2ad38a4250d3993ad2"), looks := true }, kinds := [], alts := [], laidByText := true, laidKinds := [.data, .data], laidTests := true, laidLooks := .later }
def SynBracketsCardSaid : Prop := Claim7.holds Tryd.pinned (.plain (OpenSpec.ofChange synBracketsSpec)) synBracketsCard

/-- THE TIED CARD OF 'parallaxlaw03.SynDeep'. -/
def synDeepCard : Claim7 := { stood := { row := synDeepRow, standIns := [], harness := (true, "ce9fbdb7ce7820b4ab32dad704b734f501682c71ec0e4a2ad38a4250d3993ad2"), looks := true }, kinds := [], alts := [], laidByText := true, laidKinds := [.data, .data], laidTests := true, laidLooks := .later }
def SynDeepCardSaid : Prop := Claim7.holds Tryd.pinned (.plain (OpenSpec.ofChange synDeepSpec)) synDeepCard

/-- THE TIED CARD OF 'parallaxlaw03.SynSame'. -/
def synSameCard : Claim7 := { stood := { row := synSameRow, standIns := [], harness := (true, "ce9fbdb7ce7820b4ab32dad704b734f501682c71ec0e4a2ad38a4250d3993ad2"), looks := true }, kinds := [], alts := [], laidByText := true, laidKinds := [.data, .data], laidTests := true, laidLooks := .later }
def SynSameCardSaid : Prop := Claim7.holds Tryd.pinned (.plain (OpenSpec.ofChange synSameSpec)) synSameCard

/-- THE SECOND FORM's CARD OF 'parallaxlaw03.SynStable'. -/
def synStableUptoCard : Claim7 := { stood := { row := synStableUptoRow, standIns := [], harness := (true, "ce9fbdb7ce7820b4ab32dad704b734f501682c71ec0e4a2ad38a4250d3993ad2"), looks := true }, kinds := [], alts := [], laidByText := true, laidKinds := [.data, .data], laidTests := true, laidLooks := .later }
def SynStableUptoCardSaid : Prop := Claim7.holds Tryd.pinned (.plain (OpenSpec.upto synStableSpec)) synStableUptoCard

/-- THE SECOND FORM's CARD OF 'parallaxlaw03.SynBrackets'. -/
def synBracketsUptoCard : Claim7 := { stood := { row := synBracketsUptoRow, standIns := [], harness := (true, "ce9fbdb7ce7820b4ab32dad704b734f501682c71ec0e4a2ad38a4250d3993ad2"), looks := true }, kinds := [], alts := [], laidByText := true, laidKinds := [.data, .data], laidTests := true, laidLooks := .later }
def SynBracketsUptoCardSaid : Prop := Claim7.holds Tryd.pinned (.plain (OpenSpec.upto synBracketsSpec)) synBracketsUptoCard

/-- THE SECOND FORM's CARD OF 'parallaxlaw03.SynDeep'. -/
def synDeepUptoCard : Claim7 := { stood := { row := synDeepUptoRow, standIns := [], harness := (true, "ce9fbdb7ce7820b4ab32dad704b734f501682c71ec0e4a2ad38a4250d3993ad2"), looks := true }, kinds := [], alts := [], laidByText := true, laidKinds := [.data, .data], laidTests := true, laidLooks := .later }
def SynDeepUptoCardSaid : Prop := Claim7.holds Tryd.pinned (.plain (OpenSpec.upto synDeepSpec)) synDeepUptoCard

/-- THE SECOND FORM's CARD OF 'parallaxlaw03.SynSame'. -/
def synSameUptoCard : Claim7 := { stood := { row := synSameUptoRow, standIns := [], harness := (true, "ce9fbdb7ce7820b4ab32dad704b734f501682c71ec0e4a2ad38a4250d3993ad2"), looks := true }, kinds := [], alts := [], laidByText := true, laidKinds := [.data, .data], laidTests := true, laidLooks := .later }
def SynSameUptoCardSaid : Prop := Claim7.holds Tryd.pinned (.plain (OpenSpec.upto synSameSpec)) synSameUptoCard
end Rows
end Go.Proofs.YtennkhdlpbggkaaDoor
