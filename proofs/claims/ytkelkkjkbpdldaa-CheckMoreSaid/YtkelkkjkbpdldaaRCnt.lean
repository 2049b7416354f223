/- Residual forms of functions on the abstract machine: printed by a program of this session (wip/tool). -/
import Derived.Test.YtkelkkjkbpdldaaAbS
namespace Go.Proofs.Ytkelkkjkbpdldaa
open Go Go.Proofs.Ab
set_option maxRecDepth 100000
set_option linter.unusedVariables false
namespace check_count
noncomputable abbrev e (p : List Nat) := ev Sp (den Sp) id Try.f25.ntmps (cAt (bodyOf Try.f25) p)
noncomputable abbrev cn (n0 : List Nat) := canon Sp id n0
noncomputable abbrev K : K := kFin Sp (den Sp) Try.f25 0
noncomputable def L1_1_0_1_0 (i0 : Int) (l1 : (List (List V))) (i2 : Int) (i3 : Int) : Option Res := LP (e [1, 1, 0, 1, 0, 0]) (cn []) (kBlk 0 (kSeq (e [1, 1, 1]) (K))) ([(3, (V.int IntKind.i64 i0)), (6, (V.sl Tok.no T_api_Stmt l1)), (7, (V.int IntKind.i64 i2)), (8, (V.int IntKind.i64 i3))], ⟨[], [], [], [], none⟩)
theorem L1_1_0_1_0_eq (i0 : Int) (l1 : (List (List V))) (i2 : Int) (i3 : Int) : L1_1_0_1_0 i0 l1 i2 i3 =
    (bif (decide (i3 < i2)) then (if (((0 : Int) ≤ i3) ∧ (i3 < (((List.length l1) : Nat) : Int))) then (V.asInt (List.getD (List.getD l1 (Int.toNat i3) []) 0 V.undef) IntKind.i64 (fun n10 => (V.asStr (List.getD (List.getD l1 (Int.toNat i3) []) 1 V.undef) (fun s11 => (V.asStr (List.getD (List.getD l1 (Int.toNat i3) []) 2 V.undef) (fun s12 => (V.asInt (List.getD (List.getD l1 (Int.toNat i3) []) 3 V.undef) IntKind.i64 (fun n13 => (V.asSl (List.getD (List.getD l1 (Int.toNat i3) []) 4 V.undef) T_api_Expr (fun es14 => (V.asSl (List.getD (List.getD l1 (Int.toNat i3) []) 5 V.undef) T_api_Stmt (fun es15 => (V.asSl (List.getD (List.getD l1 (Int.toNat i3) []) 6 V.undef) T_api_Stmt (fun es16 => ((den Sp check_count.id [(V.sl Tok.no T_api_Stmt es15)] [] none)).bind (fun r18 => (Res.onRet r18 (fun v19 => (V.asInt v19 IntKind.i64 (fun n20 => ((den Sp check_count.id [(V.sl Tok.no T_api_Stmt es16)] [] none)).bind (fun r21 => (Res.onRet r21 (fun v22 => (V.asInt v22 IntKind.i64 (fun n23 => (L1_1_0_1_0 (IntKind.wrap IntKind.i64 (i0 + (IntKind.wrap IntKind.i64 ((IntKind.wrap IntKind.i64 ((1 : Int) + n20)) + n23)))) l1 i2 (IntKind.wrap IntKind.i64 (i3 + (1 : Int)))))))))))))))))))))))))))) else none) else (some ⟨(Out.ret (V.int IntKind.i64 i0)), [], none⟩)) := (LP_eq ..).trans (by kernel_rfl)
theorem eq (a0 : (List (List V))) : den Sp id [(V.sl Tok.no T_api_Stmt a0)] [] none =
    (L1_1_0_1_0 (0 : Int) a0 (((List.length a0) : Nat) : Int) (0 : Int)) := (den_eq ..).trans (by kernel_rfl)
end check_count

end Go.Proofs.Ytkelkkjkbpdldaa
