/- Residual forms of functions on the abstract machine: printed by a program of this session (wip/tool). -/
import Derived.Test.YtipjanijidbelaaAbS
namespace Go.Proofs.Ytipjanijidbelaa
open Go Go.Proofs.Ab
set_option maxRecDepth 100000
set_option linter.unusedVariables false
namespace law05_FoldTwice
noncomputable abbrev e (p : List Nat) := ev Sp (den Sp) id Try.f5.ntmps (cAt (bodyOf Try.f5) p)
noncomputable abbrev cn (n0 : List Nat) := canon Sp id n0
noncomputable abbrev K : K := kFin Sp (den Sp) Try.f5 0
theorem eq (a0_0 : Int) (a0_1 : ByteArray) (a0_2 : Int) (a0_3 : (List (List V))) : den Sp id [(V.agg [(V.int IntKind.i64 a0_0), (V.str a0_1), (V.int IntKind.i64 a0_2), (V.sl Tok.no T_api_Expr a0_3)])] [] none =
    ((den Sp law05_great.id [(V.agg [(V.int IntKind.i64 a0_0), (V.str a0_1), (V.int IntKind.i64 a0_2), (V.sl Tok.no T_api_Expr a0_3)])] [] none)).bind (fun r6 => (Res.onRet r6 (fun v7 => (V.asBool v7 (fun b8 => (bif b8 then ((den Sp law05_known.id [] [] none)).bind (fun r10 => (Res.onRet r10 (fun v11 => (V.asBool v11 (fun b12 => (some ⟨(Out.ret (V.bool b12)), [], none⟩)))))) else ((den Sp fold_Expr.id [(V.agg [(V.int IntKind.i64 a0_0), (V.str a0_1), (V.int IntKind.i64 a0_2), (V.sl Tok.no T_api_Expr a0_3)])] [] none)).bind (fun r10 => (Res.onRet r10 (fun v11 => (V.asAgg v11 4 (fun rd12 => (V.asInt (rd12 0) IntKind.i64 (fun n13 => (V.asStr (rd12 (0 + 1)) (fun s14 => (V.asInt (rd12 ((0 + 1) + 1)) IntKind.i64 (fun n15 => (V.asSl (rd12 (((0 + 1) + 1) + 1)) T_api_Expr (fun es16 => ((den Sp fold_Expr.id [(V.agg [(V.int IntKind.i64 n13), (V.str s14), (V.int IntKind.i64 n15), (V.sl Tok.no T_api_Expr es16)])] [] none)).bind (fun r18 => (Res.onRet r18 (fun v19 => (V.asAgg v19 4 (fun rd20 => (V.asInt (rd20 0) IntKind.i64 (fun n21 => (V.asStr (rd20 (0 + 1)) (fun s22 => (V.asInt (rd20 ((0 + 1) + 1)) IntKind.i64 (fun n23 => (V.asSl (rd20 (((0 + 1) + 1) + 1)) T_api_Expr (fun es24 => ((den Sp ref03_SameExpr.id [(V.agg [(V.int IntKind.i64 n21), (V.str s22), (V.int IntKind.i64 n23), (V.sl Tok.no T_api_Expr es24)]), (V.agg [(V.int IntKind.i64 n13), (V.str s14), (V.int IntKind.i64 n15), (V.sl Tok.no T_api_Expr es16)])] [] none)).bind (fun r25 => (Res.onRet r25 (fun v26 => (V.asBool v26 (fun b27 => (bif b27 then ((den Sp law05_known.id [] [] none)).bind (fun r28 => (Res.onRet r28 (fun v29 => (V.asBool v29 (fun b30 => (some ⟨(Out.ret (V.bool b30)), [], none⟩)))))) else (some ⟨(Out.ret (V.bool Bool.false)), [], none⟩))))))))))))))))))))))))))))))))))))))) := (den_eq ..).trans (by kernel_rfl)
end law05_FoldTwice

end Go.Proofs.Ytipjanijidbelaa
