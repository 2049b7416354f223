/-
  NARROWER THAN 'FOR EVERY INPUT', by the rows' own cells (each row's printed sentence says how): FoldEvals: loops · FoldWorth: loops · FoldTwice: loops · FoldSafe: loops · FoldRight: loops.
  DERIVED. THE GIVEN ROWS OF THIS SEAT. 5 by the template 'for every input the law returns true; each argument reads behind the call as it read before'; 0 by the template 'total and deterministic' (their statements: YtipjanijidbelaaTotals.lean).
  GIVEN WITH THE SEED: the statements are not yours to turn. If you find one false, say at which input.
  Laid BY PROGRAM, IN A SANDBOX (cutbox-rows.mjs): the forced cells as the released guide's own fill.sh prints them over the translation cc3907e99f53dd24… (all of the seat's roots in one cut). By AI agents, Wed Nov 11 2026. No macro, syntax, notation, axiom, sorry.
-/
import Derived.Test.YtipjanijidbelaaChecked
import GoSem.Claim
import GoSem.ClaimJoined
import GoSem.ClaimMapViews
import Derived.JoinedTies
import Derived.KernelRfl
namespace Go.Proofs.Ytipjanijidbelaa
/- THE CELL 'sum', in the pinned program and in every row, IS THE sha256 OF THE DUMP (.gsa) THAT YtipjanijidbelaaProg.lean LOADS. Nothing in Lean hashes anything: it is a label: what it is worth is what the hold of that sum in a sandbox is worth. -/
noncomputable def Try.pinned : Pinned := { name := "ytipjanijidbelaa", sum := "cc3907e99f53dd24e0c8248b0d55e895f6b2c775ba8259c89e3c6a45c73ade5c", checked := Try.checked }
namespace Rows
def none {H : Type} : Left H := { results := [], args := [] }

/-- 'parallaxlaw05.FoldEvals': WHATEVER THE INPUT: true; the input reads as it did. -/
def foldEvalsSpec : ChangeSpec := { name := "foldEvals", fn := fun _ => fun
  | [d1, d2] => { results := [.lit (.bool true)], args := [d1, d2] }
  | _ => none }
def foldEvalsRow : OpenClaim := { program := "ytipjanijidbelaa", sum := "cc3907e99f53dd24e0c8248b0d55e895f6b2c775ba8259c89e3c6a45c73ade5c", func := "parallax/parallaxlaw05.FoldEvals", spec := "foldEvals", recurses := true, loops := true, apart := false }
def FoldEvalsSaid : Prop := foldEvalsRow.holds Try.pinned (OpenSpec.ofChange foldEvalsSpec)

/-- ITS FALSE NEIGHBOUR: 'it returns false'. Refute it at one input. -/
def foldEvalsWrong : ChangeSpec := { name := "foldEvals", fn := fun _ => fun
  | [d1, d2] => { results := [.lit (.bool false)], args := [d1, d2] }
  | _ => none }
def FoldEvalsWrongFalsely : Prop := foldEvalsRow.holds Try.pinned (OpenSpec.ofChange foldEvalsWrong)

/-- 'parallaxlaw05.FoldWorth': WHATEVER THE INPUT: true; the input reads as it did. -/
def foldWorthSpec : ChangeSpec := { name := "foldWorth", fn := fun _ => fun
  | [d1, d2] => { results := [.lit (.bool true)], args := [d1, d2] }
  | _ => none }
def foldWorthRow : OpenClaim := { program := "ytipjanijidbelaa", sum := "cc3907e99f53dd24e0c8248b0d55e895f6b2c775ba8259c89e3c6a45c73ade5c", func := "parallax/parallaxlaw05.FoldWorth", spec := "foldWorth", recurses := true, loops := true, apart := false }
def FoldWorthSaid : Prop := foldWorthRow.holds Try.pinned (OpenSpec.ofChange foldWorthSpec)

/-- ITS FALSE NEIGHBOUR: 'it returns false'. Refute it at one input. -/
def foldWorthWrong : ChangeSpec := { name := "foldWorth", fn := fun _ => fun
  | [d1, d2] => { results := [.lit (.bool false)], args := [d1, d2] }
  | _ => none }
def FoldWorthWrongFalsely : Prop := foldWorthRow.holds Try.pinned (OpenSpec.ofChange foldWorthWrong)

/-- 'parallaxlaw05.FoldTwice': WHATEVER THE INPUT: true; the input reads as it did. -/
def foldTwiceSpec : ChangeSpec := { name := "foldTwice", fn := fun _ => fun
  | [d] => { results := [.lit (.bool true)], args := [d] }
  | _ => none }
def foldTwiceRow : OpenClaim := { program := "ytipjanijidbelaa", sum := "cc3907e99f53dd24e0c8248b0d55e895f6b2c775ba8259c89e3c6a45c73ade5c", func := "parallax/parallaxlaw05.FoldTwice", spec := "foldTwice", recurses := true, loops := true, apart := false }
def FoldTwiceSaid : Prop := foldTwiceRow.holds Try.pinned (OpenSpec.ofChange foldTwiceSpec)

/-- ITS FALSE NEIGHBOUR: 'it returns false'. Refute it at one input. -/
def foldTwiceWrong : ChangeSpec := { name := "foldTwice", fn := fun _ => fun
  | [d] => { results := [.lit (.bool false)], args := [d] }
  | _ => none }
def FoldTwiceWrongFalsely : Prop := foldTwiceRow.holds Try.pinned (OpenSpec.ofChange foldTwiceWrong)

/-- 'parallaxlaw05.FoldSafe': WHATEVER THE INPUT: true; the input reads as it did. -/
def foldSafeSpec : ChangeSpec := { name := "foldSafe", fn := fun _ => fun
  | [d1, d2] => { results := [.lit (.bool true)], args := [d1, d2] }
  | _ => none }
def foldSafeRow : OpenClaim := { program := "ytipjanijidbelaa", sum := "cc3907e99f53dd24e0c8248b0d55e895f6b2c775ba8259c89e3c6a45c73ade5c", func := "parallax/parallaxlaw05.FoldSafe", spec := "foldSafe", recurses := true, loops := true, apart := false }
def FoldSafeSaid : Prop := foldSafeRow.holds Try.pinned (OpenSpec.ofChange foldSafeSpec)

/-- ITS FALSE NEIGHBOUR: 'it returns false'. Refute it at one input. -/
def foldSafeWrong : ChangeSpec := { name := "foldSafe", fn := fun _ => fun
  | [d1, d2] => { results := [.lit (.bool false)], args := [d1, d2] }
  | _ => none }
def FoldSafeWrongFalsely : Prop := foldSafeRow.holds Try.pinned (OpenSpec.ofChange foldSafeWrong)

/-- 'parallaxlaw05.FoldRight': WHATEVER THE INPUT: true; the input reads as it did. -/
def foldRightSpec : ChangeSpec := { name := "foldRight", fn := fun _ => fun
  | [d] => { results := [.lit (.bool true)], args := [d] }
  | _ => none }
def foldRightRow : OpenClaim := { program := "ytipjanijidbelaa", sum := "cc3907e99f53dd24e0c8248b0d55e895f6b2c775ba8259c89e3c6a45c73ade5c", func := "parallax/parallaxlaw05.FoldRight", spec := "foldRight", unfollowed := true, recurses := true, loops := true, apart := false }
def FoldRightSaid : Prop := foldRightRow.holds Try.pinned (OpenSpec.ofChange foldRightSpec)

/-- ITS FALSE NEIGHBOUR: 'it returns false'. Refute it at one input. -/
def foldRightWrong : ChangeSpec := { name := "foldRight", fn := fun _ => fun
  | [d] => { results := [.lit (.bool false)], args := [d] }
  | _ => none }
def FoldRightWrongFalsely : Prop := foldRightRow.holds Try.pinned (OpenSpec.ofChange foldRightWrong)

/- THE SECOND FORM. 'bulk': how many values and letters a reading holds, each counted each time it is reached (what is shared counts as often as it is met; a slice's spare places count too). A statement '..UptoSaid' is the law's where the arguments, and the package variables that the reading takes, are together of bulk at most 1048576: NARROWER than '..Said'. Prove '..Said' where nothing that the law and all that it calls make is longer than what came in: it says more and counts as full. Else prove '..UptoSaid'. A law counts once. -/
mutual
def uptoBulk {H : Type} : DataW H → Nat
  | .lit (.string bytes) => bytes.length + 1
  | .lit _ => 1
  | .nil => 1
  | .ptr d => uptoBulk d + 1
  | .slice elems spare => uptoBulkAll elems + uptoBulkAll spare + 1
  | .agg parts => uptoBulkAll parts + 1
  | .iface _ d => uptoBulk d + 1
  | .map entries => uptoBulkEntries entries + 1
  | .held _ => 1
def uptoBulkAll {H : Type} : List (DataW H) → Nat
  | [] => 0
  | d :: r => uptoBulk d + uptoBulkAll r
def uptoBulkEntries {H : Type} : List (Lit × DataW H) → Nat
  | [] => 0
  | x :: r => uptoBulkEntry x + uptoBulkEntries r
def uptoBulkEntry {H : Type} : Lit × DataW H → Nat
  | (.string bytes, d) => bytes.length + uptoBulk d + 1
  | (_, d) => uptoBulk d + 1
 end
def uptoSmall : (H : Type) → List (DataW H) → Bool := fun _ ds => decide (uptoBulkAll ds ≤ 1048576)
def OpenSpec.upto (s : _root_.Go.ChangeSpec) : _root_.Go.OpenSpec := { _root_.Go.OpenSpec.ofChange s with cond := some uptoSmall }

/-- 'parallaxlaw05.FoldEvals', WHERE WHAT IT READS IS OF BULK AT MOST 1048576: true; the input reads as it did. -/
def foldEvalsUptoRow : OpenClaim := { program := "ytipjanijidbelaa", sum := "cc3907e99f53dd24e0c8248b0d55e895f6b2c775ba8259c89e3c6a45c73ade5c", func := "parallax/parallaxlaw05.FoldEvals", spec := "foldEvals", recurses := true, loops := true, apart := false, narrowed := true }
def FoldEvalsUptoSaid : Prop := foldEvalsUptoRow.holds Try.pinned (OpenSpec.upto foldEvalsSpec)

/-- 'parallaxlaw05.FoldWorth', WHERE WHAT IT READS IS OF BULK AT MOST 1048576: true; the input reads as it did. -/
def foldWorthUptoRow : OpenClaim := { program := "ytipjanijidbelaa", sum := "cc3907e99f53dd24e0c8248b0d55e895f6b2c775ba8259c89e3c6a45c73ade5c", func := "parallax/parallaxlaw05.FoldWorth", spec := "foldWorth", recurses := true, loops := true, apart := false, narrowed := true }
def FoldWorthUptoSaid : Prop := foldWorthUptoRow.holds Try.pinned (OpenSpec.upto foldWorthSpec)

/-- 'parallaxlaw05.FoldTwice', WHERE WHAT IT READS IS OF BULK AT MOST 1048576: true; the input reads as it did. -/
def foldTwiceUptoRow : OpenClaim := { program := "ytipjanijidbelaa", sum := "cc3907e99f53dd24e0c8248b0d55e895f6b2c775ba8259c89e3c6a45c73ade5c", func := "parallax/parallaxlaw05.FoldTwice", spec := "foldTwice", recurses := true, loops := true, apart := false, narrowed := true }
def FoldTwiceUptoSaid : Prop := foldTwiceUptoRow.holds Try.pinned (OpenSpec.upto foldTwiceSpec)

/-- 'parallaxlaw05.FoldSafe', WHERE WHAT IT READS IS OF BULK AT MOST 1048576: true; the input reads as it did. -/
def foldSafeUptoRow : OpenClaim := { program := "ytipjanijidbelaa", sum := "cc3907e99f53dd24e0c8248b0d55e895f6b2c775ba8259c89e3c6a45c73ade5c", func := "parallax/parallaxlaw05.FoldSafe", spec := "foldSafe", recurses := true, loops := true, apart := false, narrowed := true }
def FoldSafeUptoSaid : Prop := foldSafeUptoRow.holds Try.pinned (OpenSpec.upto foldSafeSpec)

/-- 'parallaxlaw05.FoldRight', WHERE WHAT IT READS IS OF BULK AT MOST 1048576: true; the input reads as it did. -/
def foldRightUptoRow : OpenClaim := { program := "ytipjanijidbelaa", sum := "cc3907e99f53dd24e0c8248b0d55e895f6b2c775ba8259c89e3c6a45c73ade5c", func := "parallax/parallaxlaw05.FoldRight", spec := "foldRight", unfollowed := true, recurses := true, loops := true, apart := false, narrowed := true }
def FoldRightUptoSaid : Prop := foldRightUptoRow.holds Try.pinned (OpenSpec.upto foldRightSpec)

end Rows
end Go.Proofs.Ytipjanijidbelaa
