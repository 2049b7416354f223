/-
  NARROWER THAN 'FOR EVERY INPUT', by the rows' own cells (each row's printed sentence says how): DeclPrints: loops, laid · DeclBack: loops, laid · DeclPlaces: laid · DeclChecks: loops, laid · DeclTurned: loops, laid · DeclLess: loops, laid.
  DERIVED. THE GIVEN ROWS OF THIS SEAT. 6 by the template 'for every input the law returns true; each argument reads behind the call as it read before'; 0 by the template 'total and deterministic' (their statements: YtmhnmelaodhemaaGreatDoorTotals.lean).
  GIVEN WITH THE SEED: the statements are not yours to turn. If you find one false, say at which input.
  Laid BY PROGRAM, IN A SANDBOX (cutbox-rows.mjs): the forced cells as the released guide's own fill.sh prints them over the translation be36e3c273406abe… (all of the seat's roots in one cut). By AI agents, Wed Nov 11 2026. No macro, syntax, notation, axiom, sorry.
-/
import Derived.Test.YtmhnmelaodhemaaGreatDoorChecked
import GoSem.Claim
import GoSem.ClaimJoined
import GoSem.ClaimMapViews
import Derived.JoinedTies
import Derived.KernelRfl
namespace Go.Proofs.YtmhnmelaodhemaaGreatDoor
/- THE CELL 'sum', in the pinned program and in every row, IS THE sha256 OF THE DUMP (.gsa) THAT YtmhnmelaodhemaaGreatDoorProg.lean LOADS. Nothing in Lean hashes anything: it is a label: what it is worth is what the hold of that sum in a sandbox is worth. -/
noncomputable def Tryz.pinned : Pinned := { name := "ytmhnmelaodhemaagreatdoor", sum := "be36e3c273406abea66532bee34c6bd5bb3130b7eac18b918d0921b701aa8038", checked := Tryz.checked }
namespace Rows
def none {H : Type} : Left H := { results := [], args := [] }

/- WHAT THE LISTED PACKAGE-LEVEL VARIABLES READ AS WHEN THE CALL BEGINS. Each datum BY PROGRAM (the guide's laid-datum.mjs) off the statement by which the dump's own 'gosem.cut.vars' lays the variable. In a bare row this is a premise. The card (YtmhnmelaodhemaaGreatDoorCards.lean) ties it to the program's text. -/
def laid_parallax_lex_keys {H : Type} : DataW H := .agg [.lit (.string [112, 114, 111, 99]), .lit (.string [118, 97, 114]), .lit (.string [105, 102]), .lit (.string [101, 108, 115, 101]), .lit (.string [119, 104, 105, 108, 101]), .lit (.string [114, 101, 116, 117, 114, 110]), .lit (.string [112, 114, 105, 110, 116]), .lit (.string [114, 101, 97, 100]), .lit (.string [97, 115, 115, 101, 114, 116]), .lit (.string [105, 110, 116]), .lit (.string [98, 111, 111, 108]), .lit (.string [116, 114, 117, 101]), .lit (.string [102, 97, 108, 115, 101])]
def laid_parallax_lex_signs {H : Type} : DataW H := .agg [.lit (.string [61, 61]), .lit (.string [33, 61]), .lit (.string [60, 61]), .lit (.string [38, 38]), .lit (.string [124, 124]), .lit (.string [40]), .lit (.string [41]), .lit (.string [123]), .lit (.string [125]), .lit (.string [91]), .lit (.string [93]), .lit (.string [44]), .lit (.string [59]), .lit (.string [61]), .lit (.string [60]), .lit (.string [33]), .lit (.string [43]), .lit (.string [45]), .lit (.string [42]), .lit (.string [47]), .lit (.string [37])]

/-- 'parallaxlaw12.DeclPrints': WHATEVER THE INPUT: true; the input reads as it did. -/
def declPrintsSpec : ChangeSpec := { name := "declPrints", fn := fun _ => fun
  | [d] => { results := [.lit (.bool true)], args := [d] }
  | _ => none }
def declPrintsRow : OpenClaim := { program := "ytmhnmelaodhemaagreatdoor", sum := "be36e3c273406abea66532bee34c6bd5bb3130b7eac18b918d0921b701aa8038", func := "parallax/parallaxlaw12.DeclPrints", spec := "declPrints", inPlace := ["internal/abi.NoEscape", "internal/bytealg.MakeNoZero"], unfollowed := true, recurses := true, named := ["parallax/lex.keys", "parallax/lex.signs"], loops := true, apart := false, laid := [("parallax/lex.keys", laid_parallax_lex_keys), ("parallax/lex.signs", laid_parallax_lex_signs)] }
def DeclPrintsSaid : Prop := declPrintsRow.holds Tryz.pinned (OpenSpec.ofChange declPrintsSpec)

/-- ITS FALSE NEIGHBOUR: 'it returns false'. Refute it at one input. -/
def declPrintsWrong : ChangeSpec := { name := "declPrints", fn := fun _ => fun
  | [d] => { results := [.lit (.bool false)], args := [d] }
  | _ => none }
def DeclPrintsWrongFalsely : Prop := declPrintsRow.holds Tryz.pinned (OpenSpec.ofChange declPrintsWrong)

/-- 'parallaxlaw12.DeclBack': WHATEVER THE INPUT: true; the input reads as it did. -/
def declBackSpec : ChangeSpec := { name := "declBack", fn := fun _ => fun
  | [d] => { results := [.lit (.bool true)], args := [d] }
  | _ => none }
def declBackRow : OpenClaim := { program := "ytmhnmelaodhemaagreatdoor", sum := "be36e3c273406abea66532bee34c6bd5bb3130b7eac18b918d0921b701aa8038", func := "parallax/parallaxlaw12.DeclBack", spec := "declBack", inPlace := ["internal/abi.NoEscape", "internal/bytealg.MakeNoZero"], unfollowed := true, recurses := true, named := ["parallax/lex.keys", "parallax/lex.signs"], loops := true, apart := false, laid := [("parallax/lex.keys", laid_parallax_lex_keys), ("parallax/lex.signs", laid_parallax_lex_signs)] }
def DeclBackSaid : Prop := declBackRow.holds Tryz.pinned (OpenSpec.ofChange declBackSpec)

/-- ITS FALSE NEIGHBOUR: 'it returns false'. Refute it at one input. -/
def declBackWrong : ChangeSpec := { name := "declBack", fn := fun _ => fun
  | [d] => { results := [.lit (.bool false)], args := [d] }
  | _ => none }
def DeclBackWrongFalsely : Prop := declBackRow.holds Tryz.pinned (OpenSpec.ofChange declBackWrong)

/-- 'parallaxlaw12.DeclPlaces': WHATEVER THE INPUT: true; the input reads as it did. -/
def declPlacesSpec : ChangeSpec := { name := "declPlaces", fn := fun _ => fun
  | [d] => { results := [.lit (.bool true)], args := [d] }
  | _ => none }
def declPlacesRow : OpenClaim := { program := "ytmhnmelaodhemaagreatdoor", sum := "be36e3c273406abea66532bee34c6bd5bb3130b7eac18b918d0921b701aa8038", func := "parallax/parallaxlaw12.DeclPlaces", spec := "declPlaces", inPlace := ["internal/abi.NoEscape", "internal/bytealg.MakeNoZero"], unfollowed := true, recurses := true, named := ["parallax/lex.keys", "parallax/lex.signs"], apart := false, laid := [("parallax/lex.keys", laid_parallax_lex_keys), ("parallax/lex.signs", laid_parallax_lex_signs)] }
def DeclPlacesSaid : Prop := declPlacesRow.holds Tryz.pinned (OpenSpec.ofChange declPlacesSpec)

/-- ITS FALSE NEIGHBOUR: 'it returns false'. Refute it at one input. -/
def declPlacesWrong : ChangeSpec := { name := "declPlaces", fn := fun _ => fun
  | [d] => { results := [.lit (.bool false)], args := [d] }
  | _ => none }
def DeclPlacesWrongFalsely : Prop := declPlacesRow.holds Tryz.pinned (OpenSpec.ofChange declPlacesWrong)

/-- 'parallaxlaw12.DeclChecks': WHATEVER THE INPUT: true; the input reads as it did. -/
def declChecksSpec : ChangeSpec := { name := "declChecks", fn := fun _ => fun
  | [d1, d2, d3] => { results := [.lit (.bool true)], args := [d1, d2, d3] }
  | _ => none }
def declChecksRow : OpenClaim := { program := "ytmhnmelaodhemaagreatdoor", sum := "be36e3c273406abea66532bee34c6bd5bb3130b7eac18b918d0921b701aa8038", func := "parallax/parallaxlaw12.DeclChecks", spec := "declChecks", inPlace := ["internal/abi.NoEscape", "internal/bytealg.MakeNoZero"], unfollowed := true, recurses := true, named := ["parallax/lex.keys", "parallax/lex.signs"], loops := true, apart := false, laid := [("parallax/lex.keys", laid_parallax_lex_keys), ("parallax/lex.signs", laid_parallax_lex_signs)] }
def DeclChecksSaid : Prop := declChecksRow.holds Tryz.pinned (OpenSpec.ofChange declChecksSpec)

/-- ITS FALSE NEIGHBOUR: 'it returns false'. Refute it at one input. -/
def declChecksWrong : ChangeSpec := { name := "declChecks", fn := fun _ => fun
  | [d1, d2, d3] => { results := [.lit (.bool false)], args := [d1, d2, d3] }
  | _ => none }
def DeclChecksWrongFalsely : Prop := declChecksRow.holds Tryz.pinned (OpenSpec.ofChange declChecksWrong)

/-- 'parallaxlaw12.DeclTurned': WHATEVER THE INPUT: true; the input reads as it did. -/
def declTurnedSpec : ChangeSpec := { name := "declTurned", fn := fun _ => fun
  | [d1, d2, d3] => { results := [.lit (.bool true)], args := [d1, d2, d3] }
  | _ => none }
def declTurnedRow : OpenClaim := { program := "ytmhnmelaodhemaagreatdoor", sum := "be36e3c273406abea66532bee34c6bd5bb3130b7eac18b918d0921b701aa8038", func := "parallax/parallaxlaw12.DeclTurned", spec := "declTurned", inPlace := ["internal/abi.NoEscape", "internal/bytealg.MakeNoZero"], unfollowed := true, recurses := true, named := ["parallax/lex.keys", "parallax/lex.signs"], loops := true, apart := false, laid := [("parallax/lex.keys", laid_parallax_lex_keys), ("parallax/lex.signs", laid_parallax_lex_signs)] }
def DeclTurnedSaid : Prop := declTurnedRow.holds Tryz.pinned (OpenSpec.ofChange declTurnedSpec)

/-- ITS FALSE NEIGHBOUR: 'it returns false'. Refute it at one input. -/
def declTurnedWrong : ChangeSpec := { name := "declTurned", fn := fun _ => fun
  | [d1, d2, d3] => { results := [.lit (.bool false)], args := [d1, d2, d3] }
  | _ => none }
def DeclTurnedWrongFalsely : Prop := declTurnedRow.holds Tryz.pinned (OpenSpec.ofChange declTurnedWrong)

/-- 'parallaxlaw12.DeclLess': WHATEVER THE INPUT: true; the input reads as it did. -/
def declLessSpec : ChangeSpec := { name := "declLess", fn := fun _ => fun
  | [d1, d2, d3, d4, d5] => { results := [.lit (.bool true)], args := [d1, d2, d3, d4, d5] }
  | _ => none }
def declLessRow : OpenClaim := { program := "ytmhnmelaodhemaagreatdoor", sum := "be36e3c273406abea66532bee34c6bd5bb3130b7eac18b918d0921b701aa8038", func := "parallax/parallaxlaw12.DeclLess", spec := "declLess", inPlace := ["internal/abi.NoEscape", "internal/bytealg.MakeNoZero"], unfollowed := true, recurses := true, named := ["parallax/lex.keys", "parallax/lex.signs"], loops := true, apart := false, laid := [("parallax/lex.keys", laid_parallax_lex_keys), ("parallax/lex.signs", laid_parallax_lex_signs)] }
def DeclLessSaid : Prop := declLessRow.holds Tryz.pinned (OpenSpec.ofChange declLessSpec)

/-- ITS FALSE NEIGHBOUR: 'it returns false'. Refute it at one input. -/
def declLessWrong : ChangeSpec := { name := "declLess", fn := fun _ => fun
  | [d1, d2, d3, d4, d5] => { results := [.lit (.bool false)], args := [d1, d2, d3, d4, d5] }
  | _ => none }
def DeclLessWrongFalsely : Prop := declLessRow.holds Tryz.pinned (OpenSpec.ofChange declLessWrong)

/- THE SECOND FORM. 'bulk': how many values and letters a reading holds, each counted each time it is reached (what is shared counts as often as it is met; a slice's spare places count too). A statement '..UptoSaid' is the law's where the arguments, and the package variables that the reading takes, are together of bulk at most 1048576: NARROWER than '..Said'. Prove '..Said' where nothing that the law and all that it calls make is longer than what came in: it says more and counts as full. Else prove '..UptoSaid'. A law counts once. -/
mutual
def uptoBulk {H : Type} : DataW H → Nat
  | .lit (.string bytes) => bytes.length + 1
  | .lit _ => 1
  | .nil => 1
  | .ptr d => uptoBulk d + 1
  | .slice elems spare => uptoBulkAll elems + uptoBulkAll spare + 1
  | .agg parts => uptoBulkAll parts + 1
  | .iface _ d => uptoBulk d + 1
  | .map entries => uptoBulkEntries entries + 1
  | .held _ => 1
def uptoBulkAll {H : Type} : List (DataW H) → Nat
  | [] => 0
  | d :: r => uptoBulk d + uptoBulkAll r
def uptoBulkEntries {H : Type} : List (Lit × DataW H) → Nat
  | [] => 0
  | x :: r => uptoBulkEntry x + uptoBulkEntries r
def uptoBulkEntry {H : Type} : Lit × DataW H → Nat
  | (.string bytes, d) => bytes.length + uptoBulk d + 1
  | (_, d) => uptoBulk d + 1
 end
def uptoSmall : (H : Type) → List (DataW H) → Bool := fun _ ds => decide (uptoBulkAll ds ≤ 1048576)
def OpenSpec.upto (s : _root_.Go.ChangeSpec) : _root_.Go.OpenSpec := { _root_.Go.OpenSpec.ofChange s with cond := some uptoSmall }

/-- 'parallaxlaw12.DeclPrints', WHERE WHAT IT READS IS OF BULK AT MOST 1048576: true; the input reads as it did. -/
def declPrintsUptoRow : OpenClaim := { program := "ytmhnmelaodhemaagreatdoor", sum := "be36e3c273406abea66532bee34c6bd5bb3130b7eac18b918d0921b701aa8038", func := "parallax/parallaxlaw12.DeclPrints", spec := "declPrints", inPlace := ["internal/abi.NoEscape", "internal/bytealg.MakeNoZero"], unfollowed := true, recurses := true, named := ["parallax/lex.keys", "parallax/lex.signs"], loops := true, apart := false, laid := [("parallax/lex.keys", laid_parallax_lex_keys), ("parallax/lex.signs", laid_parallax_lex_signs)], narrowed := true }
def DeclPrintsUptoSaid : Prop := declPrintsUptoRow.holds Tryz.pinned (OpenSpec.upto declPrintsSpec)

/-- 'parallaxlaw12.DeclBack', WHERE WHAT IT READS IS OF BULK AT MOST 1048576: true; the input reads as it did. -/
def declBackUptoRow : OpenClaim := { program := "ytmhnmelaodhemaagreatdoor", sum := "be36e3c273406abea66532bee34c6bd5bb3130b7eac18b918d0921b701aa8038", func := "parallax/parallaxlaw12.DeclBack", spec := "declBack", inPlace := ["internal/abi.NoEscape", "internal/bytealg.MakeNoZero"], unfollowed := true, recurses := true, named := ["parallax/lex.keys", "parallax/lex.signs"], loops := true, apart := false, laid := [("parallax/lex.keys", laid_parallax_lex_keys), ("parallax/lex.signs", laid_parallax_lex_signs)], narrowed := true }
def DeclBackUptoSaid : Prop := declBackUptoRow.holds Tryz.pinned (OpenSpec.upto declBackSpec)

/-- 'parallaxlaw12.DeclPlaces', WHERE WHAT IT READS IS OF BULK AT MOST 1048576: true; the input reads as it did. -/
def declPlacesUptoRow : OpenClaim := { program := "ytmhnmelaodhemaagreatdoor", sum := "be36e3c273406abea66532bee34c6bd5bb3130b7eac18b918d0921b701aa8038", func := "parallax/parallaxlaw12.DeclPlaces", spec := "declPlaces", inPlace := ["internal/abi.NoEscape", "internal/bytealg.MakeNoZero"], unfollowed := true, recurses := true, named := ["parallax/lex.keys", "parallax/lex.signs"], apart := false, laid := [("parallax/lex.keys", laid_parallax_lex_keys), ("parallax/lex.signs", laid_parallax_lex_signs)], narrowed := true }
def DeclPlacesUptoSaid : Prop := declPlacesUptoRow.holds Tryz.pinned (OpenSpec.upto declPlacesSpec)

/-- 'parallaxlaw12.DeclChecks', WHERE WHAT IT READS IS OF BULK AT MOST 1048576: true; the input reads as it did. -/
def declChecksUptoRow : OpenClaim := { program := "ytmhnmelaodhemaagreatdoor", sum := "be36e3c273406abea66532bee34c6bd5bb3130b7eac18b918d0921b701aa8038", func := "parallax/parallaxlaw12.DeclChecks", spec := "declChecks", inPlace := ["internal/abi.NoEscape", "internal/bytealg.MakeNoZero"], unfollowed := true, recurses := true, named := ["parallax/lex.keys", "parallax/lex.signs"], loops := true, apart := false, laid := [("parallax/lex.keys", laid_parallax_lex_keys), ("parallax/lex.signs", laid_parallax_lex_signs)], narrowed := true }
def DeclChecksUptoSaid : Prop := declChecksUptoRow.holds Tryz.pinned (OpenSpec.upto declChecksSpec)

/-- 'parallaxlaw12.DeclTurned', WHERE WHAT IT READS IS OF BULK AT MOST 1048576: true; the input reads as it did. -/
def declTurnedUptoRow : OpenClaim := { program := "ytmhnmelaodhemaagreatdoor", sum := "be36e3c273406abea66532bee34c6bd5bb3130b7eac18b918d0921b701aa8038", func := "parallax/parallaxlaw12.DeclTurned", spec := "declTurned", inPlace := ["internal/abi.NoEscape", "internal/bytealg.MakeNoZero"], unfollowed := true, recurses := true, named := ["parallax/lex.keys", "parallax/lex.signs"], loops := true, apart := false, laid := [("parallax/lex.keys", laid_parallax_lex_keys), ("parallax/lex.signs", laid_parallax_lex_signs)], narrowed := true }
def DeclTurnedUptoSaid : Prop := declTurnedUptoRow.holds Tryz.pinned (OpenSpec.upto declTurnedSpec)

/-- 'parallaxlaw12.DeclLess', WHERE WHAT IT READS IS OF BULK AT MOST 1048576: true; the input reads as it did. -/
def declLessUptoRow : OpenClaim := { program := "ytmhnmelaodhemaagreatdoor", sum := "be36e3c273406abea66532bee34c6bd5bb3130b7eac18b918d0921b701aa8038", func := "parallax/parallaxlaw12.DeclLess", spec := "declLess", inPlace := ["internal/abi.NoEscape", "internal/bytealg.MakeNoZero"], unfollowed := true, recurses := true, named := ["parallax/lex.keys", "parallax/lex.signs"], loops := true, apart := false, laid := [("parallax/lex.keys", laid_parallax_lex_keys), ("parallax/lex.signs", laid_parallax_lex_signs)], narrowed := true }
def DeclLessUptoSaid : Prop := declLessUptoRow.holds Tryz.pinned (OpenSpec.upto declLessSpec)

end Rows
end Go.Proofs.YtmhnmelaodhemaaGreatDoor
