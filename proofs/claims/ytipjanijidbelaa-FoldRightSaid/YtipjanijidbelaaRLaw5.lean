/- Residual forms of functions on the abstract machine: printed by a program of this session (wip/tool). -/
import Derived.Test.YtipjanijidbelaaAbS
namespace Go.Proofs.Ytipjanijidbelaa
open Go Go.Proofs.Ab
set_option maxRecDepth 100000
set_option linter.unusedVariables false
namespace law05_great
noncomputable abbrev e (p : List Nat) := ev Sp (den Sp) id Try.f8.ntmps (cAt (bodyOf Try.f8) p)
noncomputable abbrev cn (n0 : List Nat) := canon Sp id n0
noncomputable abbrev K : K := kFin Sp (den Sp) Try.f8 0
theorem eq (a0_0 : Int) (a0_1 : ByteArray) (a0_2 : Int) (a0_3 : (List (List V))) : den Sp id [(V.agg [(V.int IntKind.i64 a0_0), (V.str a0_1), (V.int IntKind.i64 a0_2), (V.sl Tok.no T_api_Expr a0_3)])] [] none =
    ((den Sp ref03_ExprSize.id [(V.agg [(V.int IntKind.i64 a0_0), (V.str a0_1), (V.int IntKind.i64 a0_2), (V.sl Tok.no T_api_Expr a0_3)]), (V.int IntKind.i64 (1500 : Int))] [] none)).bind (fun r6 => (Res.onRet r6 (fun v7 => (V.asInt v7 IntKind.i64 (fun n8 => (some ⟨(Out.ret (V.bool (decide (n8 > (1500 : Int))))), [], none⟩)))))) := (den_eq ..).trans (by kernel_rfl)
end law05_great

namespace law05_many
noncomputable abbrev e (p : List Nat) := ev Sp (den Sp) id Try.f9.ntmps (cAt (bodyOf Try.f9) p)
noncomputable abbrev cn (n0 : List Nat) := canon Sp id n0
noncomputable abbrev K : K := kFin Sp (den Sp) Try.f9 0
noncomputable def L1_1_0_1_0 (i0 : Int) (i1 : Int) (l2 : (List (List V))) (x3 : Tok) (l4 : (List (List V))) (l5 : (List (List V))) : Option Res := LP (e [1, 1, 0, 1, 0, 0]) (cn [1001]) (kBlk 0 (kSeq (e [1, 1, 1]) (K))) ([(1, (V.ref 1001 0)), (3, (V.int IntKind.i64 i0)), (4, (V.int IntKind.i64 i1)), (5, V.undef)], ⟨[(1001, (Blk.cells T_parallaxref05_Env [(V.sl Tok.no T_string l2), (V.sl x3 T_int64 l4), (V.sl Tok.no T_L_int64 l5)] Bool.false))], [], [], [], none⟩)
noncomputable def L1_1_1_0_1_0 (i0 : Int) (i1 : Int) (i2 : Int) (l3 : (List (List V))) (x4 : Tok) (l5 : (List (List V))) (l6 : (List (List V))) : Option Res := LP (e [1, 1, 1, 0, 1, 0, 0]) (cn [1001]) (kBlk 2 (kSeq (e [1, 1, 1, 1]) (K))) ([(1, (V.ref 1001 0)), (3, (V.int IntKind.i64 i0)), (4, (V.int IntKind.i64 i1)), (5, (V.int IntKind.i64 i2))], ⟨[(1001, (Blk.cells T_parallaxref05_Env [(V.sl Tok.no T_string l3), (V.sl x4 T_int64 l5), (V.sl Tok.no T_L_int64 l6)] Bool.false))], [], [], [], none⟩)
theorem L1_1_0_1_0_eq (i0 : Int) (i1 : Int) (l2 : (List (List V))) (x3 : Tok) (l4 : (List (List V))) (l5 : (List (List V))) : L1_1_0_1_0 i0 i1 l2 x3 l4 l5 =
    (bif (decide (i1 < (((List.length l2) : Nat) : Int))) then (bif (decide (i0 ≤ (3000 : Int))) then (if (((0 : Int) ≤ i1) ∧ (i1 < (((List.length l2) : Nat) : Int))) then (V.asStr (List.getD (List.getD l2 (Int.toNat i1) []) 0 V.undef) (fun s15 => (L1_1_0_1_0 (IntKind.wrap IntKind.i64 (i0 + (((ByteArray.size s15) : Nat) : Int))) (IntKind.wrap IntKind.i64 (i1 + (1 : Int))) l2 (tokOf (List.contains [2] 2) x3 l4) l4 l5))) else none) else (L1_1_1_0_1_0 i0 i1 (0 : Int) l2 (tokOf (List.contains [2] 2) x3 l4) l4 l5)) else (L1_1_1_0_1_0 i0 i1 (0 : Int) l2 (tokOf (List.contains [2] 2) x3 l4) l4 l5)) := (LP_eq ..).trans (by kernel_rfl)
theorem L1_1_1_0_1_0_eq (i0 : Int) (i1 : Int) (i2 : Int) (l3 : (List (List V))) (x4 : Tok) (l5 : (List (List V))) (l6 : (List (List V))) : L1_1_1_0_1_0 i0 i1 i2 l3 x4 l5 l6 =
    (bif (decide (i2 < (((List.length l6) : Nat) : Int))) then (bif (decide (i0 ≤ (3000 : Int))) then (if (((0 : Int) ≤ i2) ∧ (i2 < (((List.length l6) : Nat) : Int))) then (V.asSlN (List.getD (List.getD l6 (Int.toNat i2) []) (0 + 0) V.undef) T_int64 (fun z24 => (fun es25 => (bif z24 then (L1_1_1_0_1_0 (IntKind.wrap IntKind.i64 ((IntKind.wrap IntKind.i64 (i0 + (1 : Int))) + (((List.length es25) : Nat) : Int))) i1 (IntKind.wrap IntKind.i64 (i2 + (1 : Int))) l3 (tokOf (List.contains [2] 2) x4 l5) l5 l6) else (L1_1_1_0_1_0 (IntKind.wrap IntKind.i64 ((IntKind.wrap IntKind.i64 (i0 + (1 : Int))) + (((List.length es25) : Nat) : Int))) i1 (IntKind.wrap IntKind.i64 (i2 + (1 : Int))) l3 (tokOf (List.contains [2] 2) x4 l5) l5 l6))))) else none) else (some ⟨(Out.ret (V.bool (decide (i0 > (3000 : Int))))), [], none⟩)) else (some ⟨(Out.ret (V.bool (decide (i0 > (3000 : Int))))), [], none⟩)) := (LP_eq ..).trans (by kernel_rfl)
theorem eq (a0_0 : (List (List V))) (a0_1t : Tok) (a0_1 : (List (List V))) (a0_2 : (List (List V))) : den Sp id [(V.agg [(V.sl Tok.no T_string a0_0), (V.sl a0_1t T_int64 a0_1), (V.sl Tok.no T_L_int64 a0_2)])] [] none =
    (L1_1_0_1_0 (IntKind.wrap IntKind.i64 ((((List.length a0_1) : Nat) : Int) + (((List.length a0_0) : Nat) : Int))) (0 : Int) a0_0 (tokOf (List.contains [2] 2) a0_1t a0_1) a0_1 a0_2) := (den_eq ..).trans (by kernel_rfl)
end law05_many

namespace law05_own
noncomputable abbrev e (p : List Nat) := ev Sp (den Sp) id Try.f12.ntmps (cAt (bodyOf Try.f12) p)
noncomputable abbrev cn (n0 : List Nat) := canon Sp id n0
noncomputable abbrev K : K := kFin Sp (den Sp) Try.f12 0
theorem eq (a0_0 : (List (List V))) (a0_1t : Tok) (a0_1 : (List (List V))) (a0_2 : (List (List V))) : den Sp id [(V.agg [(V.sl Tok.no T_string a0_0), (V.sl a0_1t T_int64 a0_1), (V.sl Tok.no T_L_int64 a0_2)])] [] none =
    (some ⟨(Out.ret (V.agg [(V.sl Tok.no T_string a0_0), (V.sl (tokOf (List.contains [2] 2) a0_1t a0_1) T_int64 a0_1), (V.sl Tok.no T_L_int64 a0_2)])), [], none⟩) := (den_eq ..).trans (by kernel_rfl)
end law05_own

end Go.Proofs.Ytipjanijidbelaa
