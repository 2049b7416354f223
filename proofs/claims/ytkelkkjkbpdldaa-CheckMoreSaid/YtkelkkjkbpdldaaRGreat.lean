/- Residual forms of functions on the abstract machine: printed by a program of this session (wip/tool). -/
import Derived.Test.YtkelkkjkbpdldaaAbS
namespace Go.Proofs.Ytkelkkjkbpdldaa
open Go Go.Proofs.Ab
set_option maxRecDepth 100000
set_option linter.unusedVariables false
namespace law04_great
noncomputable abbrev e (p : List Nat) := ev Sp (den Sp) id Try.f7.ntmps (cAt (bodyOf Try.f7) p)
noncomputable abbrev cn (n0 : List Nat) := canon Sp id n0
noncomputable abbrev K : K := kFin Sp (den Sp) Try.f7 0
theorem eq (a0_0 : (List (List V))) : den Sp id [(V.agg [(V.sl Tok.no T_api_Proc a0_0)])] [] none =
    ((den Sp ref03_Size.id [(V.agg [(V.sl Tok.no T_api_Proc a0_0)]), (V.int IntKind.i64 (1500 : Int))] [] none)).bind (fun r3 => (Res.onRet r3 (fun v4 => (V.asInt v4 IntKind.i64 (fun n5 => (some ⟨(Out.ret (V.bool (decide (n5 > (1500 : Int))))), [], none⟩)))))) := (den_eq ..).trans (by kernel_rfl)
end law04_great

end Go.Proofs.Ytkelkkjkbpdldaa
