/-
  NARROWER THAN 'FOR EVERY INPUT', by the rows' own cells (each row's printed sentence says how): LexPrints: laid · LexNames: laid · LexBack: laid · LexPlaces: laid · LexBlanks: laid · LexFirst: laid · LexMany: laid.
  DERIVED. THE GIVEN ROWS OF THIS SEAT. 7 by the template 'for every input the law returns true; each argument reads behind the call as it read before'; 0 by the template 'total and deterministic' (their statements: YtenpcpfkiniggaaDoorTotals.lean).
  GIVEN WITH THE SEED: the statements are not yours to turn. If you find one false, say at which input.
  Laid BY PROGRAM, IN A SANDBOX (cutbox-rows.mjs): the forced cells as the released guide's own fill.sh prints them over the translation 162366449d167cce… (all of the seat's roots in one cut). By AI agents, Wed Nov 11 2026. No macro, syntax, notation, axiom, sorry.
-/
import Derived.Test.YtenpcpfkiniggaaDoorChecked
import GoSem.Claim
import GoSem.ClaimJoined
import GoSem.ClaimMapViews
import Derived.JoinedTies
import Derived.KernelRfl
namespace Go.Proofs.YtenpcpfkiniggaaDoor
/- THE CELL 'sum', in the pinned program and in every row, IS THE sha256 OF THE DUMP (.gsa) THAT YtenpcpfkiniggaaDoorProg.lean LOADS. Nothing in Lean hashes anything: it is a label: what it is worth is what the hold of that sum in a sandbox is worth. -/
noncomputable def Tryd.pinned : Pinned := { name := "ytenpcpfkiniggaadoor", sum := "162366449d167cce8ffbf2d1c310333c47373a28ca980e44cc1a0b882502254e", checked := Tryd.checked }
namespace Rows
def none {H : Type} : Left H := { results := [], args := [] }

/- WHAT THE LISTED PACKAGE-LEVEL VARIABLES READ AS WHEN THE CALL BEGINS. Each datum BY PROGRAM (the guide's laid-datum.mjs) off the statement by which the dump's own 'gosem.cut.vars' lays the variable. In a bare row this is a premise. The card (YtenpcpfkiniggaaDoorCards.lean) ties it to the program's text. -/
def laid_parallax_lex_keys {H : Type} : DataW H := .agg [.lit (.string [112, 114, 111, 99]), .lit (.string [118, 97, 114]), .lit (.string [105, 102]), .lit (.string [101, 108, 115, 101]), .lit (.string [119, 104, 105, 108, 101]), .lit (.string [114, 101, 116, 117, 114, 110]), .lit (.string [112, 114, 105, 110, 116]), .lit (.string [114, 101, 97, 100]), .lit (.string [97, 115, 115, 101, 114, 116]), .lit (.string [105, 110, 116]), .lit (.string [98, 111, 111, 108]), .lit (.string [116, 114, 117, 101]), .lit (.string [102, 97, 108, 115, 101])]
def laid_parallax_lex_signs {H : Type} : DataW H := .agg [.lit (.string [61, 61]), .lit (.string [33, 61]), .lit (.string [60, 61]), .lit (.string [38, 38]), .lit (.string [124, 124]), .lit (.string [40]), .lit (.string [41]), .lit (.string [123]), .lit (.string [125]), .lit (.string [91]), .lit (.string [93]), .lit (.string [44]), .lit (.string [59]), .lit (.string [61]), .lit (.string [60]), .lit (.string [33]), .lit (.string [43]), .lit (.string [45]), .lit (.string [42]), .lit (.string [47]), .lit (.string [37])]

/-- 'parallaxlaw02.LexPrints': WHATEVER THE INPUT: true; the input reads as it did. -/
def lexPrintsSpec : ChangeSpec := { name := "lexPrints", fn := fun _ => fun
  | [d] => { results := [.lit (.bool true)], args := [d] }
  | _ => none }
def lexPrintsRow : OpenClaim := { program := "ytenpcpfkiniggaadoor", sum := "162366449d167cce8ffbf2d1c310333c47373a28ca980e44cc1a0b882502254e", func := "parallax/parallaxlaw02.LexPrints", spec := "lexPrints", named := ["parallax/lex.keys", "parallax/lex.signs"], apart := false, laid := [("parallax/lex.keys", laid_parallax_lex_keys), ("parallax/lex.signs", laid_parallax_lex_signs)] }
def LexPrintsSaid : Prop := lexPrintsRow.holds Tryd.pinned (OpenSpec.ofChange lexPrintsSpec)

/-- ITS FALSE NEIGHBOUR: 'it returns false'. Refute it at one input. -/
def lexPrintsWrong : ChangeSpec := { name := "lexPrints", fn := fun _ => fun
  | [d] => { results := [.lit (.bool false)], args := [d] }
  | _ => none }
def LexPrintsWrongFalsely : Prop := lexPrintsRow.holds Tryd.pinned (OpenSpec.ofChange lexPrintsWrong)

/-- 'parallaxlaw02.LexNames': WHATEVER THE INPUT: true; the input reads as it did. -/
def lexNamesSpec : ChangeSpec := { name := "lexNames", fn := fun _ => fun
  | [d] => { results := [.lit (.bool true)], args := [d] }
  | _ => none }
def lexNamesRow : OpenClaim := { program := "ytenpcpfkiniggaadoor", sum := "162366449d167cce8ffbf2d1c310333c47373a28ca980e44cc1a0b882502254e", func := "parallax/parallaxlaw02.LexNames", spec := "lexNames", named := ["parallax/lex.keys", "parallax/lex.signs"], apart := false, laid := [("parallax/lex.keys", laid_parallax_lex_keys), ("parallax/lex.signs", laid_parallax_lex_signs)] }
def LexNamesSaid : Prop := lexNamesRow.holds Tryd.pinned (OpenSpec.ofChange lexNamesSpec)

/-- ITS FALSE NEIGHBOUR: 'it returns false'. Refute it at one input. -/
def lexNamesWrong : ChangeSpec := { name := "lexNames", fn := fun _ => fun
  | [d] => { results := [.lit (.bool false)], args := [d] }
  | _ => none }
def LexNamesWrongFalsely : Prop := lexNamesRow.holds Tryd.pinned (OpenSpec.ofChange lexNamesWrong)

/-- 'parallaxlaw02.LexBack': WHATEVER THE INPUT: true; the input reads as it did. -/
def lexBackSpec : ChangeSpec := { name := "lexBack", fn := fun _ => fun
  | [d] => { results := [.lit (.bool true)], args := [d] }
  | _ => none }
def lexBackRow : OpenClaim := { program := "ytenpcpfkiniggaadoor", sum := "162366449d167cce8ffbf2d1c310333c47373a28ca980e44cc1a0b882502254e", func := "parallax/parallaxlaw02.LexBack", spec := "lexBack", named := ["parallax/lex.keys", "parallax/lex.signs"], apart := false, laid := [("parallax/lex.keys", laid_parallax_lex_keys), ("parallax/lex.signs", laid_parallax_lex_signs)] }
def LexBackSaid : Prop := lexBackRow.holds Tryd.pinned (OpenSpec.ofChange lexBackSpec)

/-- ITS FALSE NEIGHBOUR: 'it returns false'. Refute it at one input. -/
def lexBackWrong : ChangeSpec := { name := "lexBack", fn := fun _ => fun
  | [d] => { results := [.lit (.bool false)], args := [d] }
  | _ => none }
def LexBackWrongFalsely : Prop := lexBackRow.holds Tryd.pinned (OpenSpec.ofChange lexBackWrong)

/-- 'parallaxlaw02.LexPlaces': WHATEVER THE INPUT: true; the input reads as it did. -/
def lexPlacesSpec : ChangeSpec := { name := "lexPlaces", fn := fun _ => fun
  | [d] => { results := [.lit (.bool true)], args := [d] }
  | _ => none }
def lexPlacesRow : OpenClaim := { program := "ytenpcpfkiniggaadoor", sum := "162366449d167cce8ffbf2d1c310333c47373a28ca980e44cc1a0b882502254e", func := "parallax/parallaxlaw02.LexPlaces", spec := "lexPlaces", named := ["parallax/lex.keys", "parallax/lex.signs"], apart := false, laid := [("parallax/lex.keys", laid_parallax_lex_keys), ("parallax/lex.signs", laid_parallax_lex_signs)] }
def LexPlacesSaid : Prop := lexPlacesRow.holds Tryd.pinned (OpenSpec.ofChange lexPlacesSpec)

/-- ITS FALSE NEIGHBOUR: 'it returns false'. Refute it at one input. -/
def lexPlacesWrong : ChangeSpec := { name := "lexPlaces", fn := fun _ => fun
  | [d] => { results := [.lit (.bool false)], args := [d] }
  | _ => none }
def LexPlacesWrongFalsely : Prop := lexPlacesRow.holds Tryd.pinned (OpenSpec.ofChange lexPlacesWrong)

/-- 'parallaxlaw02.LexBlanks': WHATEVER THE INPUT: true; the input reads as it did. -/
def lexBlanksSpec : ChangeSpec := { name := "lexBlanks", fn := fun _ => fun
  | [d1, d2, d3] => { results := [.lit (.bool true)], args := [d1, d2, d3] }
  | _ => none }
def lexBlanksRow : OpenClaim := { program := "ytenpcpfkiniggaadoor", sum := "162366449d167cce8ffbf2d1c310333c47373a28ca980e44cc1a0b882502254e", func := "parallax/parallaxlaw02.LexBlanks", spec := "lexBlanks", named := ["parallax/lex.keys", "parallax/lex.signs"], apart := false, laid := [("parallax/lex.keys", laid_parallax_lex_keys), ("parallax/lex.signs", laid_parallax_lex_signs)] }
def LexBlanksSaid : Prop := lexBlanksRow.holds Tryd.pinned (OpenSpec.ofChange lexBlanksSpec)

/-- ITS FALSE NEIGHBOUR: 'it returns false'. Refute it at one input. -/
def lexBlanksWrong : ChangeSpec := { name := "lexBlanks", fn := fun _ => fun
  | [d1, d2, d3] => { results := [.lit (.bool false)], args := [d1, d2, d3] }
  | _ => none }
def LexBlanksWrongFalsely : Prop := lexBlanksRow.holds Tryd.pinned (OpenSpec.ofChange lexBlanksWrong)

/-- 'parallaxlaw02.LexFirst': WHATEVER THE INPUT: true; the input reads as it did. -/
def lexFirstSpec : ChangeSpec := { name := "lexFirst", fn := fun _ => fun
  | [d] => { results := [.lit (.bool true)], args := [d] }
  | _ => none }
def lexFirstRow : OpenClaim := { program := "ytenpcpfkiniggaadoor", sum := "162366449d167cce8ffbf2d1c310333c47373a28ca980e44cc1a0b882502254e", func := "parallax/parallaxlaw02.LexFirst", spec := "lexFirst", named := ["parallax/lex.keys", "parallax/lex.signs"], apart := false, laid := [("parallax/lex.keys", laid_parallax_lex_keys), ("parallax/lex.signs", laid_parallax_lex_signs)] }
def LexFirstSaid : Prop := lexFirstRow.holds Tryd.pinned (OpenSpec.ofChange lexFirstSpec)

/-- ITS FALSE NEIGHBOUR: 'it returns false'. Refute it at one input. -/
def lexFirstWrong : ChangeSpec := { name := "lexFirst", fn := fun _ => fun
  | [d] => { results := [.lit (.bool false)], args := [d] }
  | _ => none }
def LexFirstWrongFalsely : Prop := lexFirstRow.holds Tryd.pinned (OpenSpec.ofChange lexFirstWrong)

/-- 'parallaxlaw02.LexMany': WHATEVER THE INPUT: true; the input reads as it did. -/
def lexManySpec : ChangeSpec := { name := "lexMany", fn := fun _ => fun
  | [d1, d2] => { results := [.lit (.bool true)], args := [d1, d2] }
  | _ => none }
def lexManyRow : OpenClaim := { program := "ytenpcpfkiniggaadoor", sum := "162366449d167cce8ffbf2d1c310333c47373a28ca980e44cc1a0b882502254e", func := "parallax/parallaxlaw02.LexMany", spec := "lexMany", named := ["parallax/lex.keys", "parallax/lex.signs"], apart := false, laid := [("parallax/lex.keys", laid_parallax_lex_keys), ("parallax/lex.signs", laid_parallax_lex_signs)] }
def LexManySaid : Prop := lexManyRow.holds Tryd.pinned (OpenSpec.ofChange lexManySpec)

/-- ITS FALSE NEIGHBOUR: 'it returns false'. Refute it at one input. -/
def lexManyWrong : ChangeSpec := { name := "lexMany", fn := fun _ => fun
  | [d1, d2] => { results := [.lit (.bool false)], args := [d1, d2] }
  | _ => none }
def LexManyWrongFalsely : Prop := lexManyRow.holds Tryd.pinned (OpenSpec.ofChange lexManyWrong)

/- THE SECOND FORM. 'bulk': how many values and letters a reading holds, each counted each time it is reached (what is shared counts as often as it is met; a slice's spare places count too). A statement '..UptoSaid' is the law's where the arguments, and the package variables that the reading takes, are together of bulk at most 1048576: NARROWER than '..Said'. Prove '..Said' where nothing that the law and all that it calls make is longer than what came in: it says more and counts as full. Else prove '..UptoSaid'. A law counts once. -/
mutual
def uptoBulk {H : Type} : DataW H → Nat
  | .lit (.string bytes) => bytes.length + 1
  | .lit _ => 1
  | .nil => 1
  | .ptr d => uptoBulk d + 1
  | .slice elems spare => uptoBulkAll elems + uptoBulkAll spare + 1
  | .agg parts => uptoBulkAll parts + 1
  | .iface _ d => uptoBulk d + 1
  | .map entries => uptoBulkEntries entries + 1
  | .held _ => 1
def uptoBulkAll {H : Type} : List (DataW H) → Nat
  | [] => 0
  | d :: r => uptoBulk d + uptoBulkAll r
def uptoBulkEntries {H : Type} : List (Lit × DataW H) → Nat
  | [] => 0
  | x :: r => uptoBulkEntry x + uptoBulkEntries r
def uptoBulkEntry {H : Type} : Lit × DataW H → Nat
  | (.string bytes, d) => bytes.length + uptoBulk d + 1
  | (_, d) => uptoBulk d + 1
 end
def uptoSmall : (H : Type) → List (DataW H) → Bool := fun _ ds => decide (uptoBulkAll ds ≤ 1048576)
def OpenSpec.upto (s : _root_.Go.ChangeSpec) : _root_.Go.OpenSpec := { _root_.Go.OpenSpec.ofChange s with cond := some uptoSmall }

/-- 'parallaxlaw02.LexPrints', WHERE WHAT IT READS IS OF BULK AT MOST 1048576: true; the input reads as it did. -/
def lexPrintsUptoRow : OpenClaim := { program := "ytenpcpfkiniggaadoor", sum := "162366449d167cce8ffbf2d1c310333c47373a28ca980e44cc1a0b882502254e", func := "parallax/parallaxlaw02.LexPrints", spec := "lexPrints", named := ["parallax/lex.keys", "parallax/lex.signs"], apart := false, laid := [("parallax/lex.keys", laid_parallax_lex_keys), ("parallax/lex.signs", laid_parallax_lex_signs)], narrowed := true }
def LexPrintsUptoSaid : Prop := lexPrintsUptoRow.holds Tryd.pinned (OpenSpec.upto lexPrintsSpec)

/-- 'parallaxlaw02.LexNames', WHERE WHAT IT READS IS OF BULK AT MOST 1048576: true; the input reads as it did. -/
def lexNamesUptoRow : OpenClaim := { program := "ytenpcpfkiniggaadoor", sum := "162366449d167cce8ffbf2d1c310333c47373a28ca980e44cc1a0b882502254e", func := "parallax/parallaxlaw02.LexNames", spec := "lexNames", named := ["parallax/lex.keys", "parallax/lex.signs"], apart := false, laid := [("parallax/lex.keys", laid_parallax_lex_keys), ("parallax/lex.signs", laid_parallax_lex_signs)], narrowed := true }
def LexNamesUptoSaid : Prop := lexNamesUptoRow.holds Tryd.pinned (OpenSpec.upto lexNamesSpec)

/-- 'parallaxlaw02.LexBack', WHERE WHAT IT READS IS OF BULK AT MOST 1048576: true; the input reads as it did. -/
def lexBackUptoRow : OpenClaim := { program := "ytenpcpfkiniggaadoor", sum := "162366449d167cce8ffbf2d1c310333c47373a28ca980e44cc1a0b882502254e", func := "parallax/parallaxlaw02.LexBack", spec := "lexBack", named := ["parallax/lex.keys", "parallax/lex.signs"], apart := false, laid := [("parallax/lex.keys", laid_parallax_lex_keys), ("parallax/lex.signs", laid_parallax_lex_signs)], narrowed := true }
def LexBackUptoSaid : Prop := lexBackUptoRow.holds Tryd.pinned (OpenSpec.upto lexBackSpec)

/-- 'parallaxlaw02.LexPlaces', WHERE WHAT IT READS IS OF BULK AT MOST 1048576: true; the input reads as it did. -/
def lexPlacesUptoRow : OpenClaim := { program := "ytenpcpfkiniggaadoor", sum := "162366449d167cce8ffbf2d1c310333c47373a28ca980e44cc1a0b882502254e", func := "parallax/parallaxlaw02.LexPlaces", spec := "lexPlaces", named := ["parallax/lex.keys", "parallax/lex.signs"], apart := false, laid := [("parallax/lex.keys", laid_parallax_lex_keys), ("parallax/lex.signs", laid_parallax_lex_signs)], narrowed := true }
def LexPlacesUptoSaid : Prop := lexPlacesUptoRow.holds Tryd.pinned (OpenSpec.upto lexPlacesSpec)

/-- 'parallaxlaw02.LexBlanks', WHERE WHAT IT READS IS OF BULK AT MOST 1048576: true; the input reads as it did. -/
def lexBlanksUptoRow : OpenClaim := { program := "ytenpcpfkiniggaadoor", sum := "162366449d167cce8ffbf2d1c310333c47373a28ca980e44cc1a0b882502254e", func := "parallax/parallaxlaw02.LexBlanks", spec := "lexBlanks", named := ["parallax/lex.keys", "parallax/lex.signs"], apart := false, laid := [("parallax/lex.keys", laid_parallax_lex_keys), ("parallax/lex.signs", laid_parallax_lex_signs)], narrowed := true }
def LexBlanksUptoSaid : Prop := lexBlanksUptoRow.holds Tryd.pinned (OpenSpec.upto lexBlanksSpec)

/-- 'parallaxlaw02.LexFirst', WHERE WHAT IT READS IS OF BULK AT MOST 1048576: true; the input reads as it did. -/
def lexFirstUptoRow : OpenClaim := { program := "ytenpcpfkiniggaadoor", sum := "162366449d167cce8ffbf2d1c310333c47373a28ca980e44cc1a0b882502254e", func := "parallax/parallaxlaw02.LexFirst", spec := "lexFirst", named := ["parallax/lex.keys", "parallax/lex.signs"], apart := false, laid := [("parallax/lex.keys", laid_parallax_lex_keys), ("parallax/lex.signs", laid_parallax_lex_signs)], narrowed := true }
def LexFirstUptoSaid : Prop := lexFirstUptoRow.holds Tryd.pinned (OpenSpec.upto lexFirstSpec)

/-- 'parallaxlaw02.LexMany', WHERE WHAT IT READS IS OF BULK AT MOST 1048576: true; the input reads as it did. -/
def lexManyUptoRow : OpenClaim := { program := "ytenpcpfkiniggaadoor", sum := "162366449d167cce8ffbf2d1c310333c47373a28ca980e44cc1a0b882502254e", func := "parallax/parallaxlaw02.LexMany", spec := "lexMany", named := ["parallax/lex.keys", "parallax/lex.signs"], apart := false, laid := [("parallax/lex.keys", laid_parallax_lex_keys), ("parallax/lex.signs", laid_parallax_lex_signs)], narrowed := true }
def LexManyUptoSaid : Prop := lexManyUptoRow.holds Tryd.pinned (OpenSpec.upto lexManySpec)

end Rows
end Go.Proofs.YtenpcpfkiniggaaDoor
