/-
  NARROWER THAN 'FOR EVERY INPUT', by the rows' own cells (each row's printed sentence says how): CheckMore: loops · CheckScopes: loops · CheckMarks: loops.
  DERIVED. THE GIVEN ROWS OF THIS SEAT. 4 by the template 'for every input the law returns true; each argument reads behind the call as it read before'; 0 by the template 'total and deterministic' (their statements: YtkelkkjkbpdldaaTotals.lean).
  GIVEN WITH THE SEED: the statements are not yours to turn. If you find one false, say at which input.
  Laid BY PROGRAM, IN A SANDBOX (cutbox-rows.mjs): the forced cells as the released guide's own fill.sh prints them over the translation c32039ddcd004803… (all of the seat's roots in one cut). By AI agents, Wed Nov 11 2026. No macro, syntax, notation, axiom, sorry.
-/
import Derived.Test.YtkelkkjkbpdldaaChecked
import GoSem.Claim
import GoSem.ClaimJoined
import GoSem.ClaimMapViews
import Derived.JoinedTies
import Derived.KernelRfl
namespace Go.Proofs.Ytkelkkjkbpdldaa
/- THE CELL 'sum', in the pinned program and in every row, IS THE sha256 OF THE DUMP (.gsa) THAT YtkelkkjkbpdldaaProg.lean LOADS. Nothing in Lean hashes anything: it is a label: what it is worth is what the hold of that sum in a sandbox is worth. -/
noncomputable def Try.pinned : Pinned := { name := "ytkelkkjkbpdldaa", sum := "c32039ddcd0048038f40fd4a56df21e561cd950f2adcb6ec7f8be6ef1c98eac0", checked := Try.checked }
namespace Rows
def none {H : Type} : Left H := { results := [], args := [] }

/-- 'parallaxlaw04.CheckMore': WHATEVER THE INPUT: true; the input reads as it did. -/
def checkMoreSpec : ChangeSpec := { name := "checkMore", fn := fun _ => fun
  | [d1, d2] => { results := [.lit (.bool true)], args := [d1, d2] }
  | _ => none }
def checkMoreRow : OpenClaim := { program := "ytkelkkjkbpdldaa", sum := "c32039ddcd0048038f40fd4a56df21e561cd950f2adcb6ec7f8be6ef1c98eac0", func := "parallax/parallaxlaw04.CheckMore", spec := "checkMore", unfollowed := true, recurses := true, loops := true, apart := false }
def CheckMoreSaid : Prop := checkMoreRow.holds Try.pinned (OpenSpec.ofChange checkMoreSpec)

/-- ITS FALSE NEIGHBOUR: 'it returns false'. Refute it at one input. -/
def checkMoreWrong : ChangeSpec := { name := "checkMore", fn := fun _ => fun
  | [d1, d2] => { results := [.lit (.bool false)], args := [d1, d2] }
  | _ => none }
def CheckMoreWrongFalsely : Prop := checkMoreRow.holds Try.pinned (OpenSpec.ofChange checkMoreWrong)

/-- 'parallaxlaw04.CheckScopes': WHATEVER THE INPUT: true; the input reads as it did. -/
def checkScopesSpec : ChangeSpec := { name := "checkScopes", fn := fun _ => fun
  | [d1, d2] => { results := [.lit (.bool true)], args := [d1, d2] }
  | _ => none }
def checkScopesRow : OpenClaim := { program := "ytkelkkjkbpdldaa", sum := "c32039ddcd0048038f40fd4a56df21e561cd950f2adcb6ec7f8be6ef1c98eac0", func := "parallax/parallaxlaw04.CheckScopes", spec := "checkScopes", unfollowed := true, recurses := true, loops := true, apart := false }
def CheckScopesSaid : Prop := checkScopesRow.holds Try.pinned (OpenSpec.ofChange checkScopesSpec)

/-- ITS FALSE NEIGHBOUR: 'it returns false'. Refute it at one input. -/
def checkScopesWrong : ChangeSpec := { name := "checkScopes", fn := fun _ => fun
  | [d1, d2] => { results := [.lit (.bool false)], args := [d1, d2] }
  | _ => none }
def CheckScopesWrongFalsely : Prop := checkScopesRow.holds Try.pinned (OpenSpec.ofChange checkScopesWrong)

/-- 'parallaxlaw04.CheckCounts': WHATEVER THE INPUT: true; the input reads as it did. -/
def checkCountsSpec : ChangeSpec := { name := "checkCounts", fn := fun _ => fun
  | [d1, d2] => { results := [.lit (.bool true)], args := [d1, d2] }
  | _ => none }
def checkCountsRow : OpenClaim := { program := "ytkelkkjkbpdldaa", sum := "c32039ddcd0048038f40fd4a56df21e561cd950f2adcb6ec7f8be6ef1c98eac0", func := "parallax/parallaxlaw04.CheckCounts", spec := "checkCounts", unfollowed := true, recurses := true, apart := false }
def CheckCountsSaid : Prop := checkCountsRow.holds Try.pinned (OpenSpec.ofChange checkCountsSpec)

/-- ITS FALSE NEIGHBOUR: 'it returns false'. Refute it at one input. -/
def checkCountsWrong : ChangeSpec := { name := "checkCounts", fn := fun _ => fun
  | [d1, d2] => { results := [.lit (.bool false)], args := [d1, d2] }
  | _ => none }
def CheckCountsWrongFalsely : Prop := checkCountsRow.holds Try.pinned (OpenSpec.ofChange checkCountsWrong)

/-- 'parallaxlaw04.CheckMarks': WHATEVER THE INPUT: true; the input reads as it did. -/
def checkMarksSpec : ChangeSpec := { name := "checkMarks", fn := fun _ => fun
  | [d1, d2] => { results := [.lit (.bool true)], args := [d1, d2] }
  | _ => none }
def checkMarksRow : OpenClaim := { program := "ytkelkkjkbpdldaa", sum := "c32039ddcd0048038f40fd4a56df21e561cd950f2adcb6ec7f8be6ef1c98eac0", func := "parallax/parallaxlaw04.CheckMarks", spec := "checkMarks", unfollowed := true, recurses := true, loops := true, apart := false }
def CheckMarksSaid : Prop := checkMarksRow.holds Try.pinned (OpenSpec.ofChange checkMarksSpec)

/-- ITS FALSE NEIGHBOUR: 'it returns false'. Refute it at one input. -/
def checkMarksWrong : ChangeSpec := { name := "checkMarks", fn := fun _ => fun
  | [d1, d2] => { results := [.lit (.bool false)], args := [d1, d2] }
  | _ => none }
def CheckMarksWrongFalsely : Prop := checkMarksRow.holds Try.pinned (OpenSpec.ofChange checkMarksWrong)

/- THE SECOND FORM. 'bulk': how many values and letters a reading holds, each counted each time it is reached (what is shared counts as often as it is met; a slice's spare places count too). A statement '..UptoSaid' is the law's where the arguments, and the package variables that the reading takes, are together of bulk at most 1048576: NARROWER than '..Said'. Prove '..Said' where nothing that the law and all that it calls make is longer than what came in: it says more and counts as full. Else prove '..UptoSaid'. A law counts once. -/
mutual
def uptoBulk {H : Type} : DataW H → Nat
  | .lit (.string bytes) => bytes.length + 1
  | .lit _ => 1
  | .nil => 1
  | .ptr d => uptoBulk d + 1
  | .slice elems spare => uptoBulkAll elems + uptoBulkAll spare + 1
  | .agg parts => uptoBulkAll parts + 1
  | .iface _ d => uptoBulk d + 1
  | .map entries => uptoBulkEntries entries + 1
  | .held _ => 1
def uptoBulkAll {H : Type} : List (DataW H) → Nat
  | [] => 0
  | d :: r => uptoBulk d + uptoBulkAll r
def uptoBulkEntries {H : Type} : List (Lit × DataW H) → Nat
  | [] => 0
  | x :: r => uptoBulkEntry x + uptoBulkEntries r
def uptoBulkEntry {H : Type} : Lit × DataW H → Nat
  | (.string bytes, d) => bytes.length + uptoBulk d + 1
  | (_, d) => uptoBulk d + 1
 end
def uptoSmall : (H : Type) → List (DataW H) → Bool := fun _ ds => decide (uptoBulkAll ds ≤ 1048576)
def OpenSpec.upto (s : _root_.Go.ChangeSpec) : _root_.Go.OpenSpec := { _root_.Go.OpenSpec.ofChange s with cond := some uptoSmall }

/-- 'parallaxlaw04.CheckMore', WHERE WHAT IT READS IS OF BULK AT MOST 1048576: true; the input reads as it did. -/
def checkMoreUptoRow : OpenClaim := { program := "ytkelkkjkbpdldaa", sum := "c32039ddcd0048038f40fd4a56df21e561cd950f2adcb6ec7f8be6ef1c98eac0", func := "parallax/parallaxlaw04.CheckMore", spec := "checkMore", unfollowed := true, recurses := true, loops := true, apart := false, narrowed := true }
def CheckMoreUptoSaid : Prop := checkMoreUptoRow.holds Try.pinned (OpenSpec.upto checkMoreSpec)

/-- 'parallaxlaw04.CheckScopes', WHERE WHAT IT READS IS OF BULK AT MOST 1048576: true; the input reads as it did. -/
def checkScopesUptoRow : OpenClaim := { program := "ytkelkkjkbpdldaa", sum := "c32039ddcd0048038f40fd4a56df21e561cd950f2adcb6ec7f8be6ef1c98eac0", func := "parallax/parallaxlaw04.CheckScopes", spec := "checkScopes", unfollowed := true, recurses := true, loops := true, apart := false, narrowed := true }
def CheckScopesUptoSaid : Prop := checkScopesUptoRow.holds Try.pinned (OpenSpec.upto checkScopesSpec)

/-- 'parallaxlaw04.CheckCounts', WHERE WHAT IT READS IS OF BULK AT MOST 1048576: true; the input reads as it did. -/
def checkCountsUptoRow : OpenClaim := { program := "ytkelkkjkbpdldaa", sum := "c32039ddcd0048038f40fd4a56df21e561cd950f2adcb6ec7f8be6ef1c98eac0", func := "parallax/parallaxlaw04.CheckCounts", spec := "checkCounts", unfollowed := true, recurses := true, apart := false, narrowed := true }
def CheckCountsUptoSaid : Prop := checkCountsUptoRow.holds Try.pinned (OpenSpec.upto checkCountsSpec)

/-- 'parallaxlaw04.CheckMarks', WHERE WHAT IT READS IS OF BULK AT MOST 1048576: true; the input reads as it did. -/
def checkMarksUptoRow : OpenClaim := { program := "ytkelkkjkbpdldaa", sum := "c32039ddcd0048038f40fd4a56df21e561cd950f2adcb6ec7f8be6ef1c98eac0", func := "parallax/parallaxlaw04.CheckMarks", spec := "checkMarks", unfollowed := true, recurses := true, loops := true, apart := false, narrowed := true }
def CheckMarksUptoSaid : Prop := checkMarksUptoRow.holds Try.pinned (OpenSpec.upto checkMarksSpec)

end Rows
end Go.Proofs.Ytkelkkjkbpdldaa
