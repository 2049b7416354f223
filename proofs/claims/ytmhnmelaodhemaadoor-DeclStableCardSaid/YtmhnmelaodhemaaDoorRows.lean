/-
  NARROWER THAN 'FOR EVERY INPUT', by the rows' own cells (each row's printed sentence says how): DeclStable: laid · DeclMany: laid.
  DERIVED. THE GIVEN ROWS OF THIS SEAT. 2 by the template 'for every input the law returns true; each argument reads behind the call as it read before'; 0 by the template 'total and deterministic' (their statements: YtmhnmelaodhemaaDoorTotals.lean).
  GIVEN WITH THE SEED: the statements are not yours to turn. If you find one false, say at which input.
  Laid BY PROGRAM, IN A SANDBOX (cutbox-rows.mjs): the forced cells as the released guide's own fill.sh prints them over the translation c350b94e78ba7957… (all of the seat's roots in one cut). By AI agents, Wed Nov 11 2026. No macro, syntax, notation, axiom, sorry.
-/
import Derived.Test.YtmhnmelaodhemaaDoorChecked
import GoSem.Claim
import GoSem.ClaimJoined
import GoSem.ClaimMapViews
import Derived.JoinedTies
import Derived.KernelRfl
namespace Go.Proofs.YtmhnmelaodhemaaDoor
/- THE CELL 'sum', in the pinned program and in every row, IS THE sha256 OF THE DUMP (.gsa) THAT YtmhnmelaodhemaaDoorProg.lean LOADS. Nothing in Lean hashes anything: it is a label: what it is worth is what the hold of that sum in a sandbox is worth. -/
noncomputable def Tryd.pinned : Pinned := { name := "ytmhnmelaodhemaadoor", sum := "c350b94e78ba79573c264ae2c8ee401aae7e612e51fd6dadffbec3f185a7abdf", checked := Tryd.checked }
namespace Rows
def none {H : Type} : Left H := { results := [], args := [] }

/- WHAT THE LISTED PACKAGE-LEVEL VARIABLES READ AS WHEN THE CALL BEGINS. Each datum BY PROGRAM (the guide's laid-datum.mjs) off the statement by which the dump's own 'gosem.cut.vars' lays the variable. In a bare row this is a premise. The card (YtmhnmelaodhemaaDoorCards.lean) ties it to the program's text. -/
def laid_parallax_lex_keys {H : Type} : DataW H := .agg [.lit (.string [112, 114, 111, 99]), .lit (.string [118, 97, 114]), .lit (.string [105, 102]), .lit (.string [101, 108, 115, 101]), .lit (.string [119, 104, 105, 108, 101]), .lit (.string [114, 101, 116, 117, 114, 110]), .lit (.string [112, 114, 105, 110, 116]), .lit (.string [114, 101, 97, 100]), .lit (.string [97, 115, 115, 101, 114, 116]), .lit (.string [105, 110, 116]), .lit (.string [98, 111, 111, 108]), .lit (.string [116, 114, 117, 101]), .lit (.string [102, 97, 108, 115, 101])]
def laid_parallax_lex_signs {H : Type} : DataW H := .agg [.lit (.string [61, 61]), .lit (.string [33, 61]), .lit (.string [60, 61]), .lit (.string [38, 38]), .lit (.string [124, 124]), .lit (.string [40]), .lit (.string [41]), .lit (.string [123]), .lit (.string [125]), .lit (.string [91]), .lit (.string [93]), .lit (.string [44]), .lit (.string [59]), .lit (.string [61]), .lit (.string [60]), .lit (.string [33]), .lit (.string [43]), .lit (.string [45]), .lit (.string [42]), .lit (.string [47]), .lit (.string [37])]

/-- 'parallaxlaw12.DeclStable': WHATEVER THE INPUT: true; the input reads as it did. -/
def declStableSpec : ChangeSpec := { name := "declStable", fn := fun _ => fun
  | [d] => { results := [.lit (.bool true)], args := [d] }
  | _ => none }
def declStableRow : OpenClaim := { program := "ytmhnmelaodhemaadoor", sum := "c350b94e78ba79573c264ae2c8ee401aae7e612e51fd6dadffbec3f185a7abdf", func := "parallax/parallaxlaw12.DeclStable", spec := "declStable", inPlace := ["internal/abi.NoEscape", "internal/bytealg.MakeNoZero"], unfollowed := true, recurses := true, named := ["parallax/lex.keys", "parallax/lex.signs"], apart := false, laid := [("parallax/lex.keys", laid_parallax_lex_keys), ("parallax/lex.signs", laid_parallax_lex_signs)] }
def DeclStableSaid : Prop := declStableRow.holds Tryd.pinned (OpenSpec.ofChange declStableSpec)

/-- ITS FALSE NEIGHBOUR: 'it returns false'. Refute it at one input. -/
def declStableWrong : ChangeSpec := { name := "declStable", fn := fun _ => fun
  | [d] => { results := [.lit (.bool false)], args := [d] }
  | _ => none }
def DeclStableWrongFalsely : Prop := declStableRow.holds Tryd.pinned (OpenSpec.ofChange declStableWrong)

/-- 'parallaxlaw12.DeclMany': WHATEVER THE INPUT: true; the input reads as it did. -/
def declManySpec : ChangeSpec := { name := "declMany", fn := fun _ => fun
  | [d1, d2] => { results := [.lit (.bool true)], args := [d1, d2] }
  | _ => none }
def declManyRow : OpenClaim := { program := "ytmhnmelaodhemaadoor", sum := "c350b94e78ba79573c264ae2c8ee401aae7e612e51fd6dadffbec3f185a7abdf", func := "parallax/parallaxlaw12.DeclMany", spec := "declMany", inPlace := ["internal/abi.NoEscape", "internal/bytealg.MakeNoZero"], unfollowed := true, recurses := true, named := ["parallax/lex.keys", "parallax/lex.signs"], apart := false, laid := [("parallax/lex.keys", laid_parallax_lex_keys), ("parallax/lex.signs", laid_parallax_lex_signs)] }
def DeclManySaid : Prop := declManyRow.holds Tryd.pinned (OpenSpec.ofChange declManySpec)

/-- ITS FALSE NEIGHBOUR: 'it returns false'. Refute it at one input. -/
def declManyWrong : ChangeSpec := { name := "declMany", fn := fun _ => fun
  | [d1, d2] => { results := [.lit (.bool false)], args := [d1, d2] }
  | _ => none }
def DeclManyWrongFalsely : Prop := declManyRow.holds Tryd.pinned (OpenSpec.ofChange declManyWrong)

/- THE SECOND FORM. 'bulk': how many values and letters a reading holds, each counted each time it is reached (what is shared counts as often as it is met; a slice's spare places count too). A statement '..UptoSaid' is the law's where the arguments, and the package variables that the reading takes, are together of bulk at most 1048576: NARROWER than '..Said'. Prove '..Said' where nothing that the law and all that it calls make is longer than what came in: it says more and counts as full. Else prove '..UptoSaid'. A law counts once. -/
mutual
def uptoBulk {H : Type} : DataW H → Nat
  | .lit (.string bytes) => bytes.length + 1
  | .lit _ => 1
  | .nil => 1
  | .ptr d => uptoBulk d + 1
  | .slice elems spare => uptoBulkAll elems + uptoBulkAll spare + 1
  | .agg parts => uptoBulkAll parts + 1
  | .iface _ d => uptoBulk d + 1
  | .map entries => uptoBulkEntries entries + 1
  | .held _ => 1
def uptoBulkAll {H : Type} : List (DataW H) → Nat
  | [] => 0
  | d :: r => uptoBulk d + uptoBulkAll r
def uptoBulkEntries {H : Type} : List (Lit × DataW H) → Nat
  | [] => 0
  | x :: r => uptoBulkEntry x + uptoBulkEntries r
def uptoBulkEntry {H : Type} : Lit × DataW H → Nat
  | (.string bytes, d) => bytes.length + uptoBulk d + 1
  | (_, d) => uptoBulk d + 1
 end
def uptoSmall : (H : Type) → List (DataW H) → Bool := fun _ ds => decide (uptoBulkAll ds ≤ 1048576)
def OpenSpec.upto (s : _root_.Go.ChangeSpec) : _root_.Go.OpenSpec := { _root_.Go.OpenSpec.ofChange s with cond := some uptoSmall }

/-- 'parallaxlaw12.DeclStable', WHERE WHAT IT READS IS OF BULK AT MOST 1048576: true; the input reads as it did. -/
def declStableUptoRow : OpenClaim := { program := "ytmhnmelaodhemaadoor", sum := "c350b94e78ba79573c264ae2c8ee401aae7e612e51fd6dadffbec3f185a7abdf", func := "parallax/parallaxlaw12.DeclStable", spec := "declStable", inPlace := ["internal/abi.NoEscape", "internal/bytealg.MakeNoZero"], unfollowed := true, recurses := true, named := ["parallax/lex.keys", "parallax/lex.signs"], apart := false, laid := [("parallax/lex.keys", laid_parallax_lex_keys), ("parallax/lex.signs", laid_parallax_lex_signs)], narrowed := true }
def DeclStableUptoSaid : Prop := declStableUptoRow.holds Tryd.pinned (OpenSpec.upto declStableSpec)

/-- 'parallaxlaw12.DeclMany', WHERE WHAT IT READS IS OF BULK AT MOST 1048576: true; the input reads as it did. -/
def declManyUptoRow : OpenClaim := { program := "ytmhnmelaodhemaadoor", sum := "c350b94e78ba79573c264ae2c8ee401aae7e612e51fd6dadffbec3f185a7abdf", func := "parallax/parallaxlaw12.DeclMany", spec := "declMany", inPlace := ["internal/abi.NoEscape", "internal/bytealg.MakeNoZero"], unfollowed := true, recurses := true, named := ["parallax/lex.keys", "parallax/lex.signs"], apart := false, laid := [("parallax/lex.keys", laid_parallax_lex_keys), ("parallax/lex.signs", laid_parallax_lex_signs)], narrowed := true }
def DeclManyUptoSaid : Prop := declManyUptoRow.holds Tryd.pinned (OpenSpec.upto declManySpec)

end Rows
end Go.Proofs.YtmhnmelaodhemaaDoor
