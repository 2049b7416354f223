/- Residual forms of functions on the abstract machine: printed by a program of this session (wip/tool). -/
import Derived.Test.YtkelkkjkbpdldaaAbS
namespace Go.Proofs.Ytkelkkjkbpdldaa
open Go Go.Proofs.Ab
set_option maxRecDepth 100000
set_option linter.unusedVariables false
namespace ref01_Among
noncomputable abbrev e (p : List Nat) := ev Sp (den Sp) id Try.f12.ntmps (cAt (bodyOf Try.f12) p)
noncomputable abbrev cn (n0 : List Nat) := canon Sp id n0
noncomputable abbrev K : K := kFin Sp (den Sp) Try.f12 0
theorem eq (a0 : Int) (a1 : Int) : den Sp id [(V.int IntKind.i64 a0), (V.int IntKind.i64 a1)] [] none =
    (bif (decide (a1 < (1 : Int))) then (some ⟨(Out.ret (V.int IntKind.i64 (0 : Int))), [], none⟩) else (if (a1 = (0 : Int)) then none else (bif (decide ((Int.tmod a0 a1) < (0 : Int))) then (some ⟨(Out.ret (V.int IntKind.i64 (IntKind.wrap IntKind.i64 ((Int.tmod a0 a1) + a1)))), [], none⟩) else (some ⟨(Out.ret (V.int IntKind.i64 (Int.tmod a0 a1))), [], none⟩)))) := (den_eq ..).trans (by kernel_rfl)
end ref01_Among

end Go.Proofs.Ytkelkkjkbpdldaa
