/-
  NARROWER THAN 'FOR EVERY INPUT', by the rows' own cells (each row's printed sentence says how): SynStable: laid · SynBrackets: laid · SynDeep: laid · SynSame: loops, laid.
  DERIVED. THE GIVEN ROWS OF THIS SEAT. 4 by the template 'for every input the law returns true; each argument reads behind the call as it read before'; 0 by the template 'total and deterministic' (their statements: YtennkhdlpbggkaaDoorTotals.lean).
  GIVEN WITH THE SEED: the statements are not yours to turn. If you find one false, say at which input.
  Laid BY PROGRAM, IN A SANDBOX (cutbox-rows.mjs): the forced cells as the released guide's own fill.sh prints them over the translation cd38201e28aac381… (all of the seat's roots in one cut). By AI agents, Wed Nov 11 2026. No macro, syntax, notation, axiom, sorry.
-/
import Derived.Test.YtennkhdlpbggkaaDoorChecked
import GoSem.Claim
import GoSem.ClaimJoined
import GoSem.ClaimMapViews
import Derived.JoinedTies
import Derived.KernelRfl
namespace Go.Proofs.YtennkhdlpbggkaaDoor
/- THE CELL 'sum', in the pinned program and in every row, IS THE sha256 OF THE DUMP (.gsa) THAT YtennkhdlpbggkaaDoorProg.lean LOADS. Nothing in Lean hashes anything: it is a label: what it is worth is what the hold of that sum in a sandbox is worth. -/
noncomputable def Tryd.pinned : Pinned := { name := "ytennkhdlpbggkaadoor", sum := "cd38201e28aac381ef3ee5304fe76276cc3520ad54c6fd54cc937d2af913008c", checked := Tryd.checked }
namespace Rows
def none {H : Type} : Left H := { results := [], args := [] }

/- WHAT THE LISTED PACKAGE-LEVEL VARIABLES READ AS WHEN THE CALL BEGINS. Each datum BY PROGRAM (the guide's laid-datum.mjs) off the statement by which the dump's own 'gosem.cut.vars' lays the variable. In a bare row this is a premise. The card (YtennkhdlpbggkaaDoorCards.lean) ties it to the program's text. -/
def laid_parallax_lex_keys {H : Type} : DataW H := .agg [.lit (.string [112, 114, 111, 99]), .lit (.string [118, 97, 114]), .lit (.string [105, 102]), .lit (.string [101, 108, 115, 101]), .lit (.string [119, 104, 105, 108, 101]), .lit (.string [114, 101, 116, 117, 114, 110]), .lit (.string [112, 114, 105, 110, 116]), .lit (.string [114, 101, 97, 100]), .lit (.string [97, 115, 115, 101, 114, 116]), .lit (.string [105, 110, 116]), .lit (.string [98, 111, 111, 108]), .lit (.string [116, 114, 117, 101]), .lit (.string [102, 97, 108, 115, 101])]
def laid_parallax_lex_signs {H : Type} : DataW H := .agg [.lit (.string [61, 61]), .lit (.string [33, 61]), .lit (.string [60, 61]), .lit (.string [38, 38]), .lit (.string [124, 124]), .lit (.string [40]), .lit (.string [41]), .lit (.string [123]), .lit (.string [125]), .lit (.string [91]), .lit (.string [93]), .lit (.string [44]), .lit (.string [59]), .lit (.string [61]), .lit (.string [60]), .lit (.string [33]), .lit (.string [43]), .lit (.string [45]), .lit (.string [42]), .lit (.string [47]), .lit (.string [37])]

/-- 'parallaxlaw03.SynStable': WHATEVER THE INPUT: true; the input reads as it did. -/
def synStableSpec : ChangeSpec := { name := "synStable", fn := fun _ => fun
  | [d] => { results := [.lit (.bool true)], args := [d] }
  | _ => none }
def synStableRow : OpenClaim := { program := "ytennkhdlpbggkaadoor", sum := "cd38201e28aac381ef3ee5304fe76276cc3520ad54c6fd54cc937d2af913008c", func := "parallax/parallaxlaw03.SynStable", spec := "synStable", unfollowed := true, recurses := true, named := ["parallax/lex.keys", "parallax/lex.signs"], apart := false, laid := [("parallax/lex.keys", laid_parallax_lex_keys), ("parallax/lex.signs", laid_parallax_lex_signs)] }
def SynStableSaid : Prop := synStableRow.holds Tryd.pinned (OpenSpec.ofChange synStableSpec)

/-- ITS FALSE NEIGHBOUR: 'it returns false'. Refute it at one input. -/
def synStableWrong : ChangeSpec := { name := "synStable", fn := fun _ => fun
  | [d] => { results := [.lit (.bool false)], args := [d] }
  | _ => none }
def SynStableWrongFalsely : Prop := synStableRow.holds Tryd.pinned (OpenSpec.ofChange synStableWrong)

/-- 'parallaxlaw03.SynBrackets': WHATEVER THE INPUT: true; the input reads as it did. -/
def synBracketsSpec : ChangeSpec := { name := "synBrackets", fn := fun _ => fun
  | [d1, d2] => { results := [.lit (.bool true)], args := [d1, d2] }
  | _ => none }
def synBracketsRow : OpenClaim := { program := "ytennkhdlpbggkaadoor", sum := "cd38201e28aac381ef3ee5304fe76276cc3520ad54c6fd54cc937d2af913008c", func := "parallax/parallaxlaw03.SynBrackets", spec := "synBrackets", unfollowed := true, recurses := true, named := ["parallax/lex.keys", "parallax/lex.signs"], apart := false, laid := [("parallax/lex.keys", laid_parallax_lex_keys), ("parallax/lex.signs", laid_parallax_lex_signs)] }
def SynBracketsSaid : Prop := synBracketsRow.holds Tryd.pinned (OpenSpec.ofChange synBracketsSpec)

/-- ITS FALSE NEIGHBOUR: 'it returns false'. Refute it at one input. -/
def synBracketsWrong : ChangeSpec := { name := "synBrackets", fn := fun _ => fun
  | [d1, d2] => { results := [.lit (.bool false)], args := [d1, d2] }
  | _ => none }
def SynBracketsWrongFalsely : Prop := synBracketsRow.holds Tryd.pinned (OpenSpec.ofChange synBracketsWrong)

/-- 'parallaxlaw03.SynDeep': WHATEVER THE INPUT: true; the input reads as it did. -/
def synDeepSpec : ChangeSpec := { name := "synDeep", fn := fun _ => fun
  | [d1, d2] => { results := [.lit (.bool true)], args := [d1, d2] }
  | _ => none }
def synDeepRow : OpenClaim := { program := "ytennkhdlpbggkaadoor", sum := "cd38201e28aac381ef3ee5304fe76276cc3520ad54c6fd54cc937d2af913008c", func := "parallax/parallaxlaw03.SynDeep", spec := "synDeep", unfollowed := true, recurses := true, named := ["parallax/lex.keys", "parallax/lex.signs"], apart := false, laid := [("parallax/lex.keys", laid_parallax_lex_keys), ("parallax/lex.signs", laid_parallax_lex_signs)] }
def SynDeepSaid : Prop := synDeepRow.holds Tryd.pinned (OpenSpec.ofChange synDeepSpec)

/-- ITS FALSE NEIGHBOUR: 'it returns false'. Refute it at one input. -/
def synDeepWrong : ChangeSpec := { name := "synDeep", fn := fun _ => fun
  | [d1, d2] => { results := [.lit (.bool false)], args := [d1, d2] }
  | _ => none }
def SynDeepWrongFalsely : Prop := synDeepRow.holds Tryd.pinned (OpenSpec.ofChange synDeepWrong)

/-- 'parallaxlaw03.SynSame': WHATEVER THE INPUT: true; the input reads as it did. -/
def synSameSpec : ChangeSpec := { name := "synSame", fn := fun _ => fun
  | [d1, d2] => { results := [.lit (.bool true)], args := [d1, d2] }
  | _ => none }
def synSameRow : OpenClaim := { program := "ytennkhdlpbggkaadoor", sum := "cd38201e28aac381ef3ee5304fe76276cc3520ad54c6fd54cc937d2af913008c", func := "parallax/parallaxlaw03.SynSame", spec := "synSame", unfollowed := true, recurses := true, named := ["parallax/lex.keys", "parallax/lex.signs"], loops := true, apart := false, laid := [("parallax/lex.keys", laid_parallax_lex_keys), ("parallax/lex.signs", laid_parallax_lex_signs)] }
def SynSameSaid : Prop := synSameRow.holds Tryd.pinned (OpenSpec.ofChange synSameSpec)

/-- ITS FALSE NEIGHBOUR: 'it returns false'. Refute it at one input. -/
def synSameWrong : ChangeSpec := { name := "synSame", fn := fun _ => fun
  | [d1, d2] => { results := [.lit (.bool false)], args := [d1, d2] }
  | _ => none }
def SynSameWrongFalsely : Prop := synSameRow.holds Tryd.pinned (OpenSpec.ofChange synSameWrong)

/- THE SECOND FORM. 'bulk': how many values and letters a reading holds, each counted each time it is reached (what is shared counts as often as it is met; a slice's spare places count too). A statement '..UptoSaid' is the law's where the arguments, and the package variables that the reading takes, are together of bulk at most 1048576: NARROWER than '..Said'. Prove '..Said' where nothing that the law and all that it calls make is longer than what came in: it says more and counts as full. Else prove '..UptoSaid'. A law counts once. -/
mutual
def uptoBulk {H : Type} : DataW H → Nat
  | .lit (.string bytes) => bytes.length + 1
  | .lit _ => 1
  | .nil => 1
  | .ptr d => uptoBulk d + 1
  | .slice elems spare => uptoBulkAll elems + uptoBulkAll spare + 1
  | .agg parts => uptoBulkAll parts + 1
  | .iface _ d => uptoBulk d + 1
  | .map entries => uptoBulkEntries entries + 1
  | .held _ => 1
def uptoBulkAll {H : Type} : List (DataW H) → Nat
  | [] => 0
  | d :: r => uptoBulk d + uptoBulkAll r
def uptoBulkEntries {H : Type} : List (Lit × DataW H) → Nat
  | [] => 0
  | x :: r => uptoBulkEntry x + uptoBulkEntries r
def uptoBulkEntry {H : Type} : Lit × DataW H → Nat
  | (.string bytes, d) => bytes.length + uptoBulk d + 1
  | (_, d) => uptoBulk d + 1
 end
def uptoSmall : (H : Type) → List (DataW H) → Bool := fun _ ds => decide (uptoBulkAll ds ≤ 1048576)
def OpenSpec.upto (s : _root_.Go.ChangeSpec) : _root_.Go.OpenSpec := { _root_.Go.OpenSpec.ofChange s with cond := some uptoSmall }

/-- 'parallaxlaw03.SynStable', WHERE WHAT IT READS IS OF BULK AT MOST 1048576: true; the input reads as it did. -/
def synStableUptoRow : OpenClaim := { program := "ytennkhdlpbggkaadoor", sum := "cd38201e28aac381ef3ee5304fe76276cc3520ad54c6fd54cc937d2af913008c", func := "parallax/parallaxlaw03.SynStable", spec := "synStable", unfollowed := true, recurses := true, named := ["parallax/lex.keys", "parallax/lex.signs"], apart := false, laid := [("parallax/lex.keys", laid_parallax_lex_keys), ("parallax/lex.signs", laid_parallax_lex_signs)], narrowed := true }
def SynStableUptoSaid : Prop := synStableUptoRow.holds Tryd.pinned (OpenSpec.upto synStableSpec)

/-- 'parallaxlaw03.SynBrackets', WHERE WHAT IT READS IS OF BULK AT MOST 1048576: true; the input reads as it did. -/
def synBracketsUptoRow : OpenClaim := { program := "ytennkhdlpbggkaadoor", sum := "cd38201e28aac381ef3ee5304fe76276cc3520ad54c6fd54cc937d2af913008c", func := "parallax/parallaxlaw03.SynBrackets", spec := "synBrackets", unfollowed := true, recurses := true, named := ["parallax/lex.keys", "parallax/lex.signs"], apart := false, laid := [("parallax/lex.keys", laid_parallax_lex_keys), ("parallax/lex.signs", laid_parallax_lex_signs)], narrowed := true }
def SynBracketsUptoSaid : Prop := synBracketsUptoRow.holds Tryd.pinned (OpenSpec.upto synBracketsSpec)

/-- 'parallaxlaw03.SynDeep', WHERE WHAT IT READS IS OF BULK AT MOST 1048576: true; the input reads as it did. -/
def synDeepUptoRow : OpenClaim := { program := "ytennkhdlpbggkaadoor", sum := "cd38201e28aac381ef3ee5304fe76276cc3520ad54c6fd54cc937d2af913008c", func := "parallax/parallaxlaw03.SynDeep", spec := "synDeep", unfollowed := true, recurses := true, named := ["parallax/lex.keys", "parallax/lex.signs"], apart := false, laid := [("parallax/lex.keys", laid_parallax_lex_keys), ("parallax/lex.signs", laid_parallax_lex_signs)], narrowed := true }
def SynDeepUptoSaid : Prop := synDeepUptoRow.holds Tryd.pinned (OpenSpec.upto synDeepSpec)

/-- 'parallaxlaw03.SynSame', WHERE WHAT IT READS IS OF BULK AT MOST 1048576: true; the input reads as it did. -/
def synSameUptoRow : OpenClaim := { program := "ytennkhdlpbggkaadoor", sum := "cd38201e28aac381ef3ee5304fe76276cc3520ad54c6fd54cc937d2af913008c", func := "parallax/parallaxlaw03.SynSame", spec := "synSame", unfollowed := true, recurses := true, named := ["parallax/lex.keys", "parallax/lex.signs"], loops := true, apart := false, laid := [("parallax/lex.keys", laid_parallax_lex_keys), ("parallax/lex.signs", laid_parallax_lex_signs)], narrowed := true }
def SynSameUptoSaid : Prop := synSameUptoRow.holds Tryd.pinned (OpenSpec.upto synSameSpec)

end Rows
end Go.Proofs.YtennkhdlpbggkaaDoor
