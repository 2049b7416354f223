/- Residual forms of functions on the abstract machine: printed by a program of this session (wip/tool). -/
import Derived.Test.YtipjanijidbelaaAbS
namespace Go.Proofs.Ytipjanijidbelaa
open Go Go.Proofs.Ab
set_option maxRecDepth 100000
set_option linter.unusedVariables false
namespace ref01_Bits
noncomputable abbrev e (p : List Nat) := ev Sp (den Sp) id Try.f72.ntmps (cAt (bodyOf Try.f72) p)
noncomputable abbrev cn (n0 : List Nat) := canon Sp id n0
noncomputable abbrev K : K := kFin Sp (den Sp) Try.f72 0
noncomputable def L1_1_0_1_0 (i0 : Int) (l1 : (List (List V))) (i2 : Int) : Option Res := LP (e [1, 1, 0, 1, 0, 0]) (cn []) (kBlk 0 (kSeq (e [1, 1, 1]) (K))) ([(0, (V.int IntKind.i64 i0)), (3, (V.sl (Tok.row 0) T_int l1)), (4, (V.int IntKind.i64 i2))], ⟨[], [0], [], [], none⟩)
theorem L1_1_0_1_0_eq (i0 : Int) (l1 : (List (List V))) (i2 : Int) : L1_1_0_1_0 i0 l1 i2 =
    (bif (decide (i2 < (64 : Int))) then (if ((IntKind.wrap IntKind.u64 i2) < (0 : Int)) then none else (if (((List.length l1) + (List.length [[(V.int IntKind.i64 (IntKind.wrap IntKind.i64 (Int.tmod (Int.fdiv (IntKind.wrap IntKind.u64 i0) ((2 : Int) ^ (Min.min (Int.toNat (IntKind.wrap IntKind.u64 i2)) 64))) (2 : Int))))]])) ≤ most) then (L1_1_0_1_0 i0 (l1 ++ [[(V.int IntKind.i64 (IntKind.wrap IntKind.i64 (Int.tmod (Int.fdiv (IntKind.wrap IntKind.u64 i0) ((2 : Int) ^ (Min.min (Int.toNat (IntKind.wrap IntKind.u64 i2)) 64))) (2 : Int))))]]) (IntKind.wrap IntKind.i64 (i2 + (1 : Int)))) else none)) else (some ⟨(Out.ret (V.sl Tok.no T_int l1)), [], none⟩)) := (LP_eq ..).trans (by kernel_rfl)
theorem eq (a0 : Int) : den Sp id [(V.int IntKind.i64 a0)] [] none =
    (L1_1_0_1_0 a0 [] (0 : Int)) := (den_eq ..).trans (by kernel_rfl)
end ref01_Bits

namespace ref01_number
noncomputable abbrev e (p : List Nat) := ev Sp (den Sp) id Try.f70.ntmps (cAt (bodyOf Try.f70) p)
noncomputable abbrev cn (n0 : List Nat) := canon Sp id n0
noncomputable abbrev K : K := kFin Sp (den Sp) Try.f70 0
noncomputable def L1_1_0_1_0 (l0 : (List (List V))) (i1 : Int) (i2 : Int) : Option Res := LP (e [1, 1, 0, 1, 0, 0]) (cn []) (kBlk 0 (kSeq (e [1, 1, 1]) (K))) ([(0, (V.sl Tok.no T_int l0)), (3, (V.int IntKind.u64 i1)), (4, (V.int IntKind.i64 i2))], ⟨[], [], [], [], none⟩)
theorem L1_1_0_1_0_eq (l0 : (List (List V))) (i1 : Int) (i2 : Int) : L1_1_0_1_0 l0 i1 i2 =
    (bif (decide (i2 ≥ (0 : Int))) then (if (((0 : Int) ≤ i2) ∧ (i2 < (((List.length l0) : Nat) : Int))) then (V.asInt (List.getD (List.getD l0 (Int.toNat i2) []) 0 V.undef) IntKind.i64 (fun n9 => (L1_1_0_1_0 l0 (IntKind.wrap IntKind.u64 ((IntKind.wrap IntKind.u64 (i1 * (2 : Int))) + (IntKind.wrap IntKind.u64 n9))) (IntKind.wrap IntKind.i64 (i2 - (1 : Int)))))) else none) else (some ⟨(Out.ret (V.int IntKind.i64 (IntKind.wrap IntKind.i64 i1))), [], none⟩)) := (LP_eq ..).trans (by kernel_rfl)
theorem eq (a0 : (List (List V))) : den Sp id [(V.sl Tok.no T_int a0)] [] none =
    (L1_1_0_1_0 a0 (0 : Int) (63 : Int)) := (den_eq ..).trans (by kernel_rfl)
end ref01_number

namespace ref01_plus
noncomputable abbrev e (p : List Nat) := ev Sp (den Sp) id Try.f71.ntmps (cAt (bodyOf Try.f71) p)
noncomputable abbrev cn (n0 : List Nat) := canon Sp id n0
noncomputable abbrev K : K := kFin Sp (den Sp) Try.f71 0
noncomputable def L1_1_0_1_0 (l0 : (List (List V))) (l1 : (List (List V))) (i2 : Int) (l3 : (List (List V))) (i4 : Int) : Option Res := LP (e [1, 1, 0, 1, 0, 0]) (cn []) (kBlk 0 (kSeq (e [1, 1, 1]) (K))) ([(0, (V.sl Tok.no T_int l0)), (1, (V.sl Tok.no T_int l1)), (2, (V.int IntKind.i64 i2)), (7, (V.sl (Tok.row 0) T_int l3)), (8, (V.int IntKind.i64 i4))], ⟨[], [0], [], [], none⟩)
theorem L1_1_0_1_0_eq (l0 : (List (List V))) (l1 : (List (List V))) (i2 : Int) (l3 : (List (List V))) (i4 : Int) : L1_1_0_1_0 l0 l1 i2 l3 i4 =
    (bif (decide (i4 < (64 : Int))) then (if (((0 : Int) ≤ i4) ∧ (i4 < (((List.length l0) : Nat) : Int))) then (V.asInt (List.getD (List.getD l0 (Int.toNat i4) []) 0 V.undef) IntKind.i64 (fun n13 => (if (((0 : Int) ≤ i4) ∧ (i4 < (((List.length l1) : Nat) : Int))) then (V.asInt (List.getD (List.getD l1 (Int.toNat i4) []) 0 V.undef) IntKind.i64 (fun n14 => (if (((List.length l3) + (List.length [[(V.int IntKind.i64 (Int.tmod (IntKind.wrap IntKind.i64 ((IntKind.wrap IntKind.i64 (n13 + n14)) + i2)) (2 : Int)))]])) ≤ most) then (L1_1_0_1_0 l0 l1 (IntKind.wrap IntKind.i64 (Int.tdiv (IntKind.wrap IntKind.i64 ((IntKind.wrap IntKind.i64 (n13 + n14)) + i2)) (2 : Int))) (l3 ++ [[(V.int IntKind.i64 (Int.tmod (IntKind.wrap IntKind.i64 ((IntKind.wrap IntKind.i64 (n13 + n14)) + i2)) (2 : Int)))]]) (IntKind.wrap IntKind.i64 (i4 + (1 : Int)))) else none))) else none))) else none) else (some ⟨(Out.ret (V.sl Tok.no T_int l3)), [], none⟩)) := (LP_eq ..).trans (by kernel_rfl)
theorem eq (a0 : (List (List V))) (a1 : (List (List V))) (a2 : Int) : den Sp id [(V.sl Tok.no T_int a0), (V.sl Tok.no T_int a1), (V.int IntKind.i64 a2)] [] none =
    (L1_1_0_1_0 a0 a1 a2 [] (0 : Int)) := (den_eq ..).trans (by kernel_rfl)
end ref01_plus

namespace ref01_other
noncomputable abbrev e (p : List Nat) := ev Sp (den Sp) id Try.f73.ntmps (cAt (bodyOf Try.f73) p)
noncomputable abbrev cn (n0 : List Nat) := canon Sp id n0
noncomputable abbrev K : K := kFin Sp (den Sp) Try.f73 0
noncomputable def L1_1_0_1_0 (l0 : (List (List V))) (l1 : (List (List V))) (i2 : Int) : Option Res := LP (e [1, 1, 0, 1, 0, 0]) (cn []) (kBlk 0 (kSeq (e [1, 1, 1]) (K))) ([(0, (V.sl Tok.no T_int l0)), (3, (V.sl (Tok.row 0) T_int l1)), (4, (V.int IntKind.i64 i2))], ⟨[], [0], [], [], none⟩)
theorem L1_1_0_1_0_eq (l0 : (List (List V))) (l1 : (List (List V))) (i2 : Int) : L1_1_0_1_0 l0 l1 i2 =
    (bif (decide (i2 < (((List.length l0) : Nat) : Int))) then (if (((0 : Int) ≤ i2) ∧ (i2 < (((List.length l0) : Nat) : Int))) then (V.asInt (List.getD (List.getD l0 (Int.toNat i2) []) 0 V.undef) IntKind.i64 (fun n9 => (if (((List.length l1) + (List.length [[(V.int IntKind.i64 (IntKind.wrap IntKind.i64 ((1 : Int) - n9)))]])) ≤ most) then (L1_1_0_1_0 l0 (l1 ++ [[(V.int IntKind.i64 (IntKind.wrap IntKind.i64 ((1 : Int) - n9)))]]) (IntKind.wrap IntKind.i64 (i2 + (1 : Int)))) else none))) else none) else (some ⟨(Out.ret (V.sl Tok.no T_int l1)), [], none⟩)) := (LP_eq ..).trans (by kernel_rfl)
theorem eq (a0 : (List (List V))) : den Sp id [(V.sl Tok.no T_int a0)] [] none =
    (L1_1_0_1_0 a0 [] (0 : Int)) := (den_eq ..).trans (by kernel_rfl)
end ref01_other

namespace ref01_Add
noncomputable abbrev e (p : List Nat) := ev Sp (den Sp) id Try.f57.ntmps (cAt (bodyOf Try.f57) p)
noncomputable abbrev cn (n0 : List Nat) := canon Sp id n0
noncomputable abbrev K : K := kFin Sp (den Sp) Try.f57 0
theorem eq (a0 : Int) (a1 : Int) : den Sp id [(V.int IntKind.i64 a0), (V.int IntKind.i64 a1)] [] none =
    ((den Sp ref01_Bits.id [(V.int IntKind.i64 a0)] [] none)).bind (fun r4 => (Res.onRet r4 (fun v5 => (V.asSl v5 T_int (fun es6 => ((den Sp ref01_Bits.id [(V.int IntKind.i64 a1)] [] none)).bind (fun r7 => (Res.onRet r7 (fun v8 => (V.asSl v8 T_int (fun es9 => ((den Sp ref01_plus.id [(V.sl Tok.no T_int es6), (V.sl Tok.no T_int es9), (V.int IntKind.i64 (0 : Int))] [] none)).bind (fun r10 => (Res.onRet r10 (fun v11 => (V.asSl v11 T_int (fun es12 => ((den Sp ref01_number.id [(V.sl Tok.no T_int es12)] [] none)).bind (fun r13 => (Res.onRet r13 (fun v14 => (V.asInt v14 IntKind.i64 (fun n15 => (some ⟨(Out.ret (V.int IntKind.i64 n15)), [], none⟩))))))))))))))))))))) := (den_eq ..).trans (by kernel_rfl)
end ref01_Add

namespace ref01_Sub
noncomputable abbrev e (p : List Nat) := ev Sp (den Sp) id Try.f56.ntmps (cAt (bodyOf Try.f56) p)
noncomputable abbrev cn (n0 : List Nat) := canon Sp id n0
noncomputable abbrev K : K := kFin Sp (den Sp) Try.f56 0
theorem eq (a0 : Int) (a1 : Int) : den Sp id [(V.int IntKind.i64 a0), (V.int IntKind.i64 a1)] [] none =
    ((den Sp ref01_Bits.id [(V.int IntKind.i64 a0)] [] none)).bind (fun r4 => (Res.onRet r4 (fun v5 => (V.asSl v5 T_int (fun es6 => ((den Sp ref01_Bits.id [(V.int IntKind.i64 a1)] [] none)).bind (fun r7 => (Res.onRet r7 (fun v8 => (V.asSl v8 T_int (fun es9 => ((den Sp ref01_other.id [(V.sl Tok.no T_int es9)] [] none)).bind (fun r10 => (Res.onRet r10 (fun v11 => (V.asSl v11 T_int (fun es12 => ((den Sp ref01_plus.id [(V.sl Tok.no T_int es6), (V.sl Tok.no T_int es12), (V.int IntKind.i64 (1 : Int))] [] none)).bind (fun r13 => (Res.onRet r13 (fun v14 => (V.asSl v14 T_int (fun es15 => ((den Sp ref01_number.id [(V.sl Tok.no T_int es15)] [] none)).bind (fun r16 => (Res.onRet r16 (fun v17 => (V.asInt v17 IntKind.i64 (fun n18 => (some ⟨(Out.ret (V.int IntKind.i64 n18)), [], none⟩)))))))))))))))))))))))))) := (den_eq ..).trans (by kernel_rfl)
end ref01_Sub

namespace ref01_Neg
noncomputable abbrev e (p : List Nat) := ev Sp (den Sp) id Try.f33.ntmps (cAt (bodyOf Try.f33) p)
noncomputable abbrev cn (n0 : List Nat) := canon Sp id n0
noncomputable abbrev K : K := kFin Sp (den Sp) Try.f33 0
theorem eq (a0 : Int) : den Sp id [(V.int IntKind.i64 a0)] [] none =
    ((den Sp ref01_Sub.id [(V.int IntKind.i64 (0 : Int)), (V.int IntKind.i64 a0)] [] none)).bind (fun r3 => (Res.onRet r3 (fun v4 => (V.asInt v4 IntKind.i64 (fun n5 => (some ⟨(Out.ret (V.int IntKind.i64 n5)), [], none⟩)))))) := (den_eq ..).trans (by kernel_rfl)
end ref01_Neg

namespace ref01_Mul
noncomputable abbrev e (p : List Nat) := ev Sp (den Sp) id Try.f58.ntmps (cAt (bodyOf Try.f58) p)
noncomputable abbrev cn (n0 : List Nat) := canon Sp id n0
noncomputable abbrev K : K := kFin Sp (den Sp) Try.f58 0
noncomputable def L1_1_1_0_1_0 (l0 : (List (List V))) (l1 : (List (List V))) (l2 : (List (List V))) (i3 : Int) : Option Res := LP (e [1, 1, 1, 0, 1, 0, 0]) (cn []) (kBlk 0 (kSeq (e [1, 1, 1, 1]) (K))) ([(5, (V.sl Tok.no T_int l0)), (6, (V.sl Tok.no T_int l1)), (7, (V.sl Tok.no T_int l2)), (8, (V.int IntKind.i64 i3))], ⟨[], [], [], [], none⟩)
theorem L1_1_1_0_1_0_eq (l0 : (List (List V))) (l1 : (List (List V))) (l2 : (List (List V))) (i3 : Int) : L1_1_1_0_1_0 l0 l1 l2 i3 =
    (bif (decide (i3 < (64 : Int))) then (if (((0 : Int) ≤ i3) ∧ (i3 < (((List.length l2) : Nat) : Int))) then (V.asInt (List.getD (List.getD l2 (Int.toNat i3) []) 0 V.undef) IntKind.i64 (fun n21 => (bif (n21 == (1 : Int)) then ((den Sp ref01_plus.id [(V.sl Tok.no T_int l0), (V.sl Tok.no T_int l1), (V.int IntKind.i64 (0 : Int))] [] none)).bind (fun r23 => (Res.onRet r23 (fun v24 => (V.asSl v24 T_int (fun es25 => ((den Sp ref01_plus.id [(V.sl Tok.no T_int l1), (V.sl Tok.no T_int l1), (V.int IntKind.i64 (0 : Int))] [] none)).bind (fun r27 => (Res.onRet r27 (fun v28 => (V.asSl v28 T_int (fun es29 => (L1_1_1_0_1_0 es25 es29 l2 (IntKind.wrap IntKind.i64 (i3 + (1 : Int)))))))))))))) else ((den Sp ref01_plus.id [(V.sl Tok.no T_int l1), (V.sl Tok.no T_int l1), (V.int IntKind.i64 (0 : Int))] [] none)).bind (fun r23 => (Res.onRet r23 (fun v24 => (V.asSl v24 T_int (fun es25 => (L1_1_1_0_1_0 l0 es25 l2 (IntKind.wrap IntKind.i64 (i3 + (1 : Int)))))))))))) else none) else ((den Sp ref01_number.id [(V.sl Tok.no T_int l0)] [] none)).bind (fun r21 => (Res.onRet r21 (fun v22 => (V.asInt v22 IntKind.i64 (fun n23 => (some ⟨(Out.ret (V.int IntKind.i64 n23)), [], none⟩))))))) := (LP_eq ..).trans (by kernel_rfl)
theorem eq (a0 : Int) (a1 : Int) : den Sp id [(V.int IntKind.i64 a0), (V.int IntKind.i64 a1)] [] none =
    ((den Sp ref01_Bits.id [(V.int IntKind.i64 (0 : Int))] [] none)).bind (fun r4 => (Res.onRet r4 (fun v5 => (V.asSl v5 T_int (fun es6 => ((den Sp ref01_Bits.id [(V.int IntKind.i64 a0)] [] none)).bind (fun r8 => (Res.onRet r8 (fun v9 => (V.asSl v9 T_int (fun es10 => ((den Sp ref01_Bits.id [(V.int IntKind.i64 a1)] [] none)).bind (fun r11 => (Res.onRet r11 (fun v12 => (V.asSl v12 T_int (fun es13 => (L1_1_1_0_1_0 es6 es10 es13 (0 : Int))))))))))))))))) := (den_eq ..).trans (by kernel_rfl)
end ref01_Mul

namespace ref01_size
noncomputable abbrev e (p : List Nat) := ev Sp (den Sp) id Try.f75.ntmps (cAt (bodyOf Try.f75) p)
noncomputable abbrev cn (n0 : List Nat) := canon Sp id n0
noncomputable abbrev K : K := kFin Sp (den Sp) Try.f75 0
theorem eq (a0 : Int) : den Sp id [(V.int IntKind.i64 a0)] [] none =
    (bif (decide (a0 < (0 : Int))) then ((den Sp ref01_Neg.id [(V.int IntKind.i64 a0)] [] none)).bind (fun r4 => (Res.onRet r4 (fun v5 => (V.asInt v5 IntKind.i64 (fun n6 => (some ⟨(Out.ret (V.int IntKind.u64 (IntKind.wrap IntKind.u64 n6))), [], none⟩)))))) else (some ⟨(Out.ret (V.int IntKind.u64 (IntKind.wrap IntKind.u64 a0))), [], none⟩)) := (den_eq ..).trans (by kernel_rfl)
end ref01_size

namespace ref01_parted
noncomputable abbrev e (p : List Nat) := ev Sp (den Sp) id Try.f74.ntmps (cAt (bodyOf Try.f74) p)
noncomputable abbrev cn (n0 : List Nat) := canon Sp id n0
noncomputable abbrev K : K := kFin Sp (den Sp) Try.f74 0
noncomputable def L1_1_0_1_0 (i0 : Int) (i1 : Int) (i2 : Int) (i3 : Int) (i4 : Int) : Option Res := LP (e [1, 1, 0, 1, 0, 0]) (cn []) (kBlk 0 (kSeq (e [1, 1, 1]) (K))) ([(0, (V.int IntKind.u64 i0)), (1, (V.int IntKind.u64 i1)), (6, (V.int IntKind.u64 i2)), (7, (V.int IntKind.u64 i3)), (8, (V.int IntKind.i64 i4))], ⟨[], [], [], [], none⟩)
theorem L1_1_0_1_0_eq (i0 : Int) (i1 : Int) (i2 : Int) (i3 : Int) (i4 : Int) : L1_1_0_1_0 i0 i1 i2 i3 i4 =
    (bif (decide (i4 ≥ (0 : Int))) then (if ((IntKind.wrap IntKind.u64 i4) < (0 : Int)) then none else (bif (decide (i3 ≥ (9223372036854775808 : Int))) then (L1_1_0_1_0 i0 i1 (IntKind.wrap IntKind.u64 ((IntKind.wrap IntKind.u64 (i2 * (2 : Int))) + (1 : Int))) (IntKind.wrap IntKind.u64 ((IntKind.wrap IntKind.u64 ((IntKind.wrap IntKind.u64 (i3 * (2 : Int))) + (Int.tmod (Int.fdiv i0 ((2 : Int) ^ (Min.min (Int.toNat (IntKind.wrap IntKind.u64 i4)) 64))) (2 : Int)))) - i1)) (IntKind.wrap IntKind.i64 (i4 - (1 : Int)))) else (bif (decide ((IntKind.wrap IntKind.u64 ((IntKind.wrap IntKind.u64 (i3 * (2 : Int))) + (Int.tmod (Int.fdiv i0 ((2 : Int) ^ (Min.min (Int.toNat (IntKind.wrap IntKind.u64 i4)) 64))) (2 : Int)))) ≥ i1)) then (L1_1_0_1_0 i0 i1 (IntKind.wrap IntKind.u64 ((IntKind.wrap IntKind.u64 (i2 * (2 : Int))) + (1 : Int))) (IntKind.wrap IntKind.u64 ((IntKind.wrap IntKind.u64 ((IntKind.wrap IntKind.u64 (i3 * (2 : Int))) + (Int.tmod (Int.fdiv i0 ((2 : Int) ^ (Min.min (Int.toNat (IntKind.wrap IntKind.u64 i4)) 64))) (2 : Int)))) - i1)) (IntKind.wrap IntKind.i64 (i4 - (1 : Int)))) else (L1_1_0_1_0 i0 i1 (IntKind.wrap IntKind.u64 (i2 * (2 : Int))) (IntKind.wrap IntKind.u64 ((IntKind.wrap IntKind.u64 (i3 * (2 : Int))) + (Int.tmod (Int.fdiv i0 ((2 : Int) ^ (Min.min (Int.toNat (IntKind.wrap IntKind.u64 i4)) 64))) (2 : Int)))) (IntKind.wrap IntKind.i64 (i4 - (1 : Int))))))) else (some ⟨(Out.ret (V.tup [(V.int IntKind.u64 i2), (V.int IntKind.u64 i3)])), [], none⟩)) := (LP_eq ..).trans (by kernel_rfl)
theorem eq (a0 : Int) (a1 : Int) : den Sp id [(V.int IntKind.u64 a0), (V.int IntKind.u64 a1)] [] none =
    (L1_1_0_1_0 a0 a1 (0 : Int) (0 : Int) (63 : Int)) := (den_eq ..).trans (by kernel_rfl)
end ref01_parted

namespace ref01_Div
noncomputable abbrev e (p : List Nat) := ev Sp (den Sp) id Try.f59.ntmps (cAt (bodyOf Try.f59) p)
noncomputable abbrev cn (n0 : List Nat) := canon Sp id n0
noncomputable abbrev K : K := kFin Sp (den Sp) Try.f59 0
theorem eq (a0 : Int) (a1 : Int) : den Sp id [(V.int IntKind.i64 a0), (V.int IntKind.i64 a1)] [] none =
    (bif (a1 == (0 : Int)) then (some ⟨(Out.ret (V.tup [(V.int IntKind.i64 (0 : Int)), (V.int IntKind.i64 (11 : Int))])), [], none⟩) else ((den Sp ref01_size.id [(V.int IntKind.i64 a0)] [] none)).bind (fun r5 => (Res.onRet r5 (fun v6 => (V.asInt v6 IntKind.u64 (fun n7 => ((den Sp ref01_size.id [(V.int IntKind.i64 a1)] [] none)).bind (fun r8 => (Res.onRet r8 (fun v9 => (V.asInt v9 IntKind.u64 (fun n10 => ((den Sp ref01_parted.id [(V.int IntKind.u64 n7), (V.int IntKind.u64 n10)] [] none)).bind (fun r11 => (Res.onRet r11 (fun v12 => (V.asTup v12 2 (fun rd13 => (V.asInt (rd13 0) IntKind.u64 (fun n14 => (V.asInt (rd13 (0 + 1)) IntKind.u64 (fun n15 => (bif (!((decide (a0 < (0 : Int))) == (decide (a1 < (0 : Int))))) then ((den Sp ref01_Neg.id [(V.int IntKind.i64 (IntKind.wrap IntKind.i64 n14))] [] none)).bind (fun r18 => (Res.onRet r18 (fun v19 => (V.asInt v19 IntKind.i64 (fun n20 => (some ⟨(Out.ret (V.tup [(V.int IntKind.i64 n20), (V.int IntKind.i64 (0 : Int))])), [], none⟩)))))) else (some ⟨(Out.ret (V.tup [(V.int IntKind.i64 (IntKind.wrap IntKind.i64 n14)), (V.int IntKind.i64 (0 : Int))])), [], none⟩)))))))))))))))))))))) := (den_eq ..).trans (by kernel_rfl)
end ref01_Div

namespace ref01_Mod
noncomputable abbrev e (p : List Nat) := ev Sp (den Sp) id Try.f60.ntmps (cAt (bodyOf Try.f60) p)
noncomputable abbrev cn (n0 : List Nat) := canon Sp id n0
noncomputable abbrev K : K := kFin Sp (den Sp) Try.f60 0
theorem eq (a0 : Int) (a1 : Int) : den Sp id [(V.int IntKind.i64 a0), (V.int IntKind.i64 a1)] [] none =
    ((den Sp ref01_Div.id [(V.int IntKind.i64 a0), (V.int IntKind.i64 a1)] [] none)).bind (fun r4 => (Res.onRet r4 (fun v5 => (V.asTup v5 2 (fun rd6 => (V.asInt (rd6 0) IntKind.i64 (fun n7 => (V.asInt (rd6 (0 + 1)) IntKind.i64 (fun n8 => (bif (n8 != (0 : Int)) then (some ⟨(Out.ret (V.tup [(V.int IntKind.i64 (0 : Int)), (V.int IntKind.i64 n8)])), [], none⟩) else ((den Sp ref01_Mul.id [(V.int IntKind.i64 n7), (V.int IntKind.i64 a1)] [] none)).bind (fun r11 => (Res.onRet r11 (fun v12 => (V.asInt v12 IntKind.i64 (fun n13 => ((den Sp ref01_Sub.id [(V.int IntKind.i64 a0), (V.int IntKind.i64 n13)] [] none)).bind (fun r14 => (Res.onRet r14 (fun v15 => (V.asInt v15 IntKind.i64 (fun n16 => (some ⟨(Out.ret (V.tup [(V.int IntKind.i64 n16), (V.int IntKind.i64 (0 : Int))])), [], none⟩))))))))))))))))))))) := (den_eq ..).trans (by kernel_rfl)
end ref01_Mod

namespace num_Add
noncomputable abbrev e (p : List Nat) := ev Sp (den Sp) id Try.f50.ntmps (cAt (bodyOf Try.f50) p)
noncomputable abbrev cn (n0 : List Nat) := canon Sp id n0
noncomputable abbrev K : K := kFin Sp (den Sp) Try.f50 0
theorem eq (a0 : Int) (a1 : Int) : den Sp id [(V.int IntKind.i64 a0), (V.int IntKind.i64 a1)] [] none =
    (some ⟨(Out.ret (V.int IntKind.i64 (IntKind.wrap IntKind.i64 (a0 + a1)))), [], none⟩) := (den_eq ..).trans (by kernel_rfl)
end num_Add

namespace num_Sub
noncomputable abbrev e (p : List Nat) := ev Sp (den Sp) id Try.f51.ntmps (cAt (bodyOf Try.f51) p)
noncomputable abbrev cn (n0 : List Nat) := canon Sp id n0
noncomputable abbrev K : K := kFin Sp (den Sp) Try.f51 0
theorem eq (a0 : Int) (a1 : Int) : den Sp id [(V.int IntKind.i64 a0), (V.int IntKind.i64 a1)] [] none =
    (some ⟨(Out.ret (V.int IntKind.i64 (IntKind.wrap IntKind.i64 (a0 - a1)))), [], none⟩) := (den_eq ..).trans (by kernel_rfl)
end num_Sub

namespace num_Mul
noncomputable abbrev e (p : List Nat) := ev Sp (den Sp) id Try.f52.ntmps (cAt (bodyOf Try.f52) p)
noncomputable abbrev cn (n0 : List Nat) := canon Sp id n0
noncomputable abbrev K : K := kFin Sp (den Sp) Try.f52 0
theorem eq (a0 : Int) (a1 : Int) : den Sp id [(V.int IntKind.i64 a0), (V.int IntKind.i64 a1)] [] none =
    (some ⟨(Out.ret (V.int IntKind.i64 (IntKind.wrap IntKind.i64 (a0 * a1)))), [], none⟩) := (den_eq ..).trans (by kernel_rfl)
end num_Mul

namespace num_Neg
noncomputable abbrev e (p : List Nat) := ev Sp (den Sp) id Try.f28.ntmps (cAt (bodyOf Try.f28) p)
noncomputable abbrev cn (n0 : List Nat) := canon Sp id n0
noncomputable abbrev K : K := kFin Sp (den Sp) Try.f28 0
theorem eq (a0 : Int) : den Sp id [(V.int IntKind.i64 a0)] [] none =
    (some ⟨(Out.ret (V.int IntKind.i64 (IntKind.wrap IntKind.i64 ((0 : Int) - a0)))), [], none⟩) := (den_eq ..).trans (by kernel_rfl)
end num_Neg

namespace num_Div
noncomputable abbrev e (p : List Nat) := ev Sp (den Sp) id Try.f53.ntmps (cAt (bodyOf Try.f53) p)
noncomputable abbrev cn (n0 : List Nat) := canon Sp id n0
noncomputable abbrev K : K := kFin Sp (den Sp) Try.f53 0
theorem eq (a0 : Int) (a1 : Int) : den Sp id [(V.int IntKind.i64 a0), (V.int IntKind.i64 a1)] [] none =
    (bif (a1 == (0 : Int)) then (some ⟨(Out.ret (V.tup [(V.int IntKind.i64 (0 : Int)), (V.int IntKind.i64 (11 : Int))])), [], none⟩) else (if (a1 = (0 : Int)) then none else (some ⟨(Out.ret (V.tup [(V.int IntKind.i64 (IntKind.wrap IntKind.i64 (Int.tdiv a0 a1))), (V.int IntKind.i64 (0 : Int))])), [], none⟩))) := (den_eq ..).trans (by kernel_rfl)
end num_Div

namespace num_Mod
noncomputable abbrev e (p : List Nat) := ev Sp (den Sp) id Try.f54.ntmps (cAt (bodyOf Try.f54) p)
noncomputable abbrev cn (n0 : List Nat) := canon Sp id n0
noncomputable abbrev K : K := kFin Sp (den Sp) Try.f54 0
theorem eq (a0 : Int) (a1 : Int) : den Sp id [(V.int IntKind.i64 a0), (V.int IntKind.i64 a1)] [] none =
    (bif (a1 == (0 : Int)) then (some ⟨(Out.ret (V.tup [(V.int IntKind.i64 (0 : Int)), (V.int IntKind.i64 (11 : Int))])), [], none⟩) else (if (a1 = (0 : Int)) then none else (some ⟨(Out.ret (V.tup [(V.int IntKind.i64 (Int.tmod a0 a1)), (V.int IntKind.i64 (0 : Int))])), [], none⟩))) := (den_eq ..).trans (by kernel_rfl)
end num_Mod

end Go.Proofs.Ytipjanijidbelaa
