/- Residual forms of functions on the abstract machine: printed by a program of this session (wip/tool). -/
import Derived.Test.YtipjanijidbelaaAbS
namespace Go.Proofs.Ytipjanijidbelaa
open Go Go.Proofs.Ab
set_option maxRecDepth 100000
set_option linter.unusedVariables false
namespace ref03_SameExpr
noncomputable abbrev e (p : List Nat) := ev Sp (den Sp) id Try.f15.ntmps (cAt (bodyOf Try.f15) p)
noncomputable abbrev cn (n0 : List Nat) := canon Sp id n0
noncomputable abbrev K : K := kFin Sp (den Sp) Try.f15 0
theorem eq (a0_0 : Int) (a0_1 : ByteArray) (a0_2 : Int) (a0_3 : (List (List V))) (a1_0 : Int) (a1_1 : ByteArray) (a1_2 : Int) (a1_3 : (List (List V))) : den Sp id [(V.agg [(V.int IntKind.i64 a0_0), (V.str a0_1), (V.int IntKind.i64 a0_2), (V.sl Tok.no T_api_Expr a0_3)]), (V.agg [(V.int IntKind.i64 a1_0), (V.str a1_1), (V.int IntKind.i64 a1_2), (V.sl Tok.no T_api_Expr a1_3)])] [] none =
    (bif (a0_0 != a1_0) then (some ⟨(Out.ret (V.bool Bool.false)), [], none⟩) else (bif (!(decide (a0_1 = a1_1))) then (some ⟨(Out.ret (V.bool Bool.false)), [], none⟩) else (bif (a0_2 != a1_2) then (some ⟨(Out.ret (V.bool Bool.false)), [], none⟩) else ((den Sp ref03_SameExprs.id [(V.sl Tok.no T_api_Expr a0_3), (V.sl Tok.no T_api_Expr a1_3)] [] none)).bind (fun r11 => (Res.onRet r11 (fun v12 => (V.asBool v12 (fun b13 => (some ⟨(Out.ret (V.bool b13)), [], none⟩))))))))) := (den_eq ..).trans (by kernel_rfl)
end ref03_SameExpr

namespace ref03_SameExprs
noncomputable abbrev e (p : List Nat) := ev Sp (den Sp) id Try.f40.ntmps (cAt (bodyOf Try.f40) p)
noncomputable abbrev cn (n0 : List Nat) := canon Sp id n0
noncomputable abbrev K : K := kFin Sp (den Sp) Try.f40 0
noncomputable def L1_1_0_1_0 (l0 : (List (List V))) (l1 : (List (List V))) (i2 : Int) : Option Res := LP (e [1, 1, 0, 1, 0, 0]) (cn []) (kBlk 0 (kSeq (e [1, 1, 1]) (K))) ([(0, (V.sl Tok.no T_api_Expr l0)), (1, (V.sl Tok.no T_api_Expr l1)), (5, (V.int IntKind.i64 i2))], ⟨[], [], [], [], none⟩)
theorem L1_1_0_1_0_eq (l0 : (List (List V))) (l1 : (List (List V))) (i2 : Int) : L1_1_0_1_0 l0 l1 i2 =
    (bif (decide (i2 < (((List.length l0) : Nat) : Int))) then (if (((0 : Int) ≤ i2) ∧ (i2 < (((List.length l0) : Nat) : Int))) then (V.asInt (List.getD (List.getD l0 (Int.toNat i2) []) 0 V.undef) IntKind.i64 (fun n10 => (V.asStr (List.getD (List.getD l0 (Int.toNat i2) []) 1 V.undef) (fun s11 => (V.asInt (List.getD (List.getD l0 (Int.toNat i2) []) 2 V.undef) IntKind.i64 (fun n12 => (V.asSl (List.getD (List.getD l0 (Int.toNat i2) []) 3 V.undef) T_api_Expr (fun es13 => (if (((0 : Int) ≤ i2) ∧ (i2 < (((List.length l1) : Nat) : Int))) then (V.asInt (List.getD (List.getD l1 (Int.toNat i2) []) 0 V.undef) IntKind.i64 (fun n14 => (V.asStr (List.getD (List.getD l1 (Int.toNat i2) []) 1 V.undef) (fun s15 => (V.asInt (List.getD (List.getD l1 (Int.toNat i2) []) 2 V.undef) IntKind.i64 (fun n16 => (V.asSl (List.getD (List.getD l1 (Int.toNat i2) []) 3 V.undef) T_api_Expr (fun es17 => ((den Sp ref03_SameExpr.id [(V.agg [(V.int IntKind.i64 n10), (V.str s11), (V.int IntKind.i64 n12), (V.sl Tok.no T_api_Expr es13)]), (V.agg [(V.int IntKind.i64 n14), (V.str s15), (V.int IntKind.i64 n16), (V.sl Tok.no T_api_Expr es17)])] [] none)).bind (fun r18 => (Res.onRet r18 (fun v19 => (V.asBool v19 (fun b20 => (bif (!b20) then (some ⟨(Out.ret (V.bool Bool.false)), [], none⟩) else (L1_1_0_1_0 l0 l1 (IntKind.wrap IntKind.i64 (i2 + (1 : Int)))))))))))))))))) else none))))))))) else none) else (some ⟨(Out.ret (V.bool Bool.true)), [], none⟩)) := (LP_eq ..).trans (by kernel_rfl)
theorem eq (a0 : (List (List V))) (a1 : (List (List V))) : den Sp id [(V.sl Tok.no T_api_Expr a0), (V.sl Tok.no T_api_Expr a1)] [] none =
    (bif ((((List.length a0) : Nat) : Int) != (((List.length a1) : Nat) : Int)) then (some ⟨(Out.ret (V.bool Bool.false)), [], none⟩) else (L1_1_0_1_0 a0 a1 (0 : Int))) := (den_eq ..).trans (by kernel_rfl)
end ref03_SameExprs

end Go.Proofs.Ytipjanijidbelaa
