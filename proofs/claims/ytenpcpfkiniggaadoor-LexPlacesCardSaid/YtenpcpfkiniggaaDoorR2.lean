/- Residual forms of functions on the abstract machine: printed by a program of this session (wip/tool). -/
import Derived.Test.YtenpcpfkiniggaaDoorAbS
namespace Go.Proofs.YtenpcpfkiniggaaDoor
open Go Go.Proofs.Ab
set_option maxRecDepth 100000
set_option linter.unusedVariables false
namespace ref02_Same
noncomputable abbrev e (p : List Nat) := ev Sp (den Sp) id Tryd.f19.ntmps (cAt (bodyOf Tryd.f19) p)
noncomputable abbrev cn (n0 : List Nat) := canon Sp id n0
noncomputable abbrev K : K := kFin Sp (den Sp) Tryd.f19 0
noncomputable def L1_1_0_1_0 (l0 : (List (List V))) (l1 : (List (List V))) (b2 : Bool) (i3 : Int) : Option Res := LP (e [1, 1, 0, 1, 0, 0]) (cn []) (kBlk 0 (kSeq (e [1, 1, 1]) (K))) ([(0, (V.sl Tok.no T_api_Token l0)), (1, (V.sl Tok.no T_api_Token l1)), (2, (V.bool b2)), (7, (V.int IntKind.i64 i3))], ⟨[], [], [], [], none⟩)
theorem L1_1_0_1_0_eq (l0 : (List (List V))) (l1 : (List (List V))) (b2 : Bool) (i3 : Int) : L1_1_0_1_0 l0 l1 b2 i3 =
    (bif (decide (i3 < (((List.length l0) : Nat) : Int))) then (if (((0 : Int) ≤ i3) ∧ (i3 < (((List.length l0) : Nat) : Int))) then (V.asInt (List.getD (List.getD l0 (Int.toNat i3) []) 0 V.undef) IntKind.i64 (fun n12 => (V.asStr (List.getD (List.getD l0 (Int.toNat i3) []) 1 V.undef) (fun s13 => (V.asInt (List.getD (List.getD l0 (Int.toNat i3) []) 2 V.undef) IntKind.i64 (fun n14 => (V.asInt (List.getD (List.getD l0 (Int.toNat i3) []) 3 V.undef) IntKind.i64 (fun n15 => (if (((0 : Int) ≤ i3) ∧ (i3 < (((List.length l1) : Nat) : Int))) then (V.asInt (List.getD (List.getD l1 (Int.toNat i3) []) 0 V.undef) IntKind.i64 (fun n16 => (V.asStr (List.getD (List.getD l1 (Int.toNat i3) []) 1 V.undef) (fun s17 => (V.asInt (List.getD (List.getD l1 (Int.toNat i3) []) 2 V.undef) IntKind.i64 (fun n18 => (V.asInt (List.getD (List.getD l1 (Int.toNat i3) []) 3 V.undef) IntKind.i64 (fun n19 => (bif (!b2) then (bif (!((n12 == n16) && ((decide (s13 = s17)) && ((n14 == n18) && (((0 : Int) == (0 : Int)) && Bool.true))))) then (some ⟨(Out.ret (V.bool Bool.false)), [], none⟩) else (L1_1_0_1_0 l0 l1 b2 (IntKind.wrap IntKind.i64 (i3 + (1 : Int))))) else (bif (!((n12 == n16) && ((decide (s13 = s17)) && ((n14 == n18) && ((n15 == n19) && Bool.true))))) then (some ⟨(Out.ret (V.bool Bool.false)), [], none⟩) else (L1_1_0_1_0 l0 l1 b2 (IntKind.wrap IntKind.i64 (i3 + (1 : Int)))))))))))))) else none))))))))) else none) else (some ⟨(Out.ret (V.bool Bool.true)), [], none⟩)) := (LP_eq ..).trans (by kernel_rfl)
theorem eq (a0 : (List (List V))) (a1 : (List (List V))) (a2 : Bool) : den Sp id [(V.sl Tok.no T_api_Token a0), (V.sl Tok.no T_api_Token a1), (V.bool a2)] [] none =
    (bif ((((List.length a0) : Nat) : Int) != (((List.length a1) : Nat) : Int)) then (some ⟨(Out.ret (V.bool Bool.false)), [], none⟩) else (L1_1_0_1_0 a0 a1 a2 (0 : Int))) := (den_eq ..).trans (by kernel_rfl)
end ref02_Same

namespace ref02_Signs
noncomputable abbrev e (p : List Nat) := ev Sp (den Sp) id Tryd.f48.ntmps (cAt (bodyOf Tryd.f48) p)
noncomputable abbrev cn (n0 : List Nat) := canon Sp id n0
noncomputable abbrev K : K := kFin Sp (den Sp) Tryd.f48 0
theorem eq : den Sp id [] [] none =
    (some ⟨(Out.ret (V.sl Tok.no T_string [[(V.str (ByteArray.mk #[40]))], [(V.str (ByteArray.mk #[41]))], [(V.str (ByteArray.mk #[123]))], [(V.str (ByteArray.mk #[125]))], [(V.str (ByteArray.mk #[91]))], [(V.str (ByteArray.mk #[93]))], [(V.str (ByteArray.mk #[44]))], [(V.str (ByteArray.mk #[59]))], [(V.str (ByteArray.mk #[61]))], [(V.str (ByteArray.mk #[61, 61]))], [(V.str (ByteArray.mk #[33, 61]))], [(V.str (ByteArray.mk #[60]))], [(V.str (ByteArray.mk #[60, 61]))], [(V.str (ByteArray.mk #[38, 38]))], [(V.str (ByteArray.mk #[124, 124]))], [(V.str (ByteArray.mk #[33]))], [(V.str (ByteArray.mk #[43]))], [(V.str (ByteArray.mk #[45]))], [(V.str (ByteArray.mk #[42]))], [(V.str (ByteArray.mk #[47]))], [(V.str (ByteArray.mk #[37]))]])), [], none⟩) := (den_eq ..).trans (by kernel_rfl)
end ref02_Signs

end Go.Proofs.YtenpcpfkiniggaaDoor
