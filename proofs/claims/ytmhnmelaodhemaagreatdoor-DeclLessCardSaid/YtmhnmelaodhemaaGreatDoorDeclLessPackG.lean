/- Own texts under the law DeclLess, merged, without what it does not lean on: part 7 of 7 (the abstract machine and its proof; residual forms; contracts; the plain law). -/
import Derived.Test.YtmhnmelaodhemaaGreatDoorDeclLessPackF
namespace Go.Proofs.YtmhnmelaodhemaaGreatDoor
open Go Go.Proofs.Ab
set_option maxRecDepth 100000
set_option linter.unusedVariables false
namespace decl_judge_proc
noncomputable abbrev e (p : List Nat) := ev Sp (den Sp) id Tryz.f140.ntmps (cAt (bodyOf Tryz.f140) p)
noncomputable abbrev cn (n0 : List Nat) := canon Sp id n0
noncomputable abbrev K : K := kFin Sp (den Sp) Tryz.f140 1
noncomputable def L1_1_0_1_0 (s0 : ByteArray) (l1 : List (List V)) (i2 i3 : Int) (l4 l5 l6 l7 l8 l9 l10 l11 l12 l13 l14 : List (List V)) : Option Res := LP (e [1, 1, 0, 1, 0, 0]) (cn [0]) (kBlk 0 (kSeq (e [1, 1, 1]) (K))) ([(2, (V.str s0)), (21, (V.sl .no T_api_Proc l1)), (22, (V.int .i64 i2)), (23, (V.int .i64 i3))], ⟨[(0, (Blk.cells T_decl_judge [(V.sl .no T_api_Pair l4), (V.sl .no T_api_Pair l5), (V.sl .no T_decl_Keep l6), (V.sl .no T_decl_Break l7), (V.sl .no T_decl_Watch l8), (V.sl .no T_api_Proc l9), (V.sl .no T_api_Proc l10), (V.sl .no T_L_api_Var l11), (V.sl .no T_int l12), (V.sl .no T_L_api_Var l13), (V.sl .no T_int l14)] false))], [], [], [], none⟩)
theorem L1_1_0_1_0_eq (s0 : ByteArray) (l1 : List (List V)) (i2 i3 : Int) (l4 l5 l6 l7 l8 l9 l10 l11 l12 l13 l14 : List (List V)) : L1_1_0_1_0 s0 l1 i2 i3 l4 l5 l6 l7 l8 l9 l10 l11 l12 l13 l14 =
    (bif (decide (i3 < i2)) then (if (((0 : Int) ≤ i3) ∧ (i3 < (l1.length : Int))) then (V.asStr (List.getD (List.getD l1 (Int.toNat i3) []) 0 V.undef) (fun s33 => (V.asSl (List.getD (List.getD l1 (Int.toNat i3) []) 1 V.undef) T_api_Param (fun es34 => (V.asInt (List.getD (List.getD l1 (Int.toNat i3) []) 2 V.undef) .i64 (fun n35 => (V.asSl (List.getD (List.getD l1 (Int.toNat i3) []) 3 V.undef) T_api_Stmt (fun es36 => (bif (decide (s33 = s0)) then (some ⟨(Out.ret (V.int .i64 i3)), [(Blk.cells T_decl_judge [(V.sl .no T_api_Pair l4), (V.sl .no T_api_Pair l5), (V.sl .no T_decl_Keep l6), (V.sl .no T_decl_Break l7), (V.sl .no T_decl_Watch l8), (V.sl .no T_api_Proc l9), (V.sl .no T_api_Proc l10), (V.sl .no T_L_api_Var l11), (V.sl .no T_int l12), (V.sl .no T_L_api_Var l13), (V.sl .no T_int l14)] false)], none⟩) else (L1_1_0_1_0 s0 l1 i2 (IntKind.wrap .i64 (i3 + (1 : Int))) l4 l5 l6 l7 l8 l9 l10 l11 l12 l13 l14)))))))))) else none) else (some ⟨(Out.ret (V.int .i64 (Neg.neg (1 : Int)))), [(Blk.cells T_decl_judge [(V.sl .no T_api_Pair l4), (V.sl .no T_api_Pair l5), (V.sl .no T_decl_Keep l6), (V.sl .no T_decl_Break l7), (V.sl .no T_decl_Watch l8), (V.sl .no T_api_Proc l9), (V.sl .no T_api_Proc l10), (V.sl .no T_L_api_Var l11), (V.sl .no T_int l12), (V.sl .no T_L_api_Var l13), (V.sl .no T_int l14)] false)], none⟩)) := (LP_eq ..).trans (by kernel_rfl)
theorem eq (m0_0 m0_1 m0_2 m0_3 m0_4 m0_5 m0_6 m0_7 m0_8 m0_9 m0_10 : List (List V)) (a1 : Int) (a2 : ByteArray) : den Sp id [(V.ref 0 0), (V.int .i64 a1), (V.str a2)] [(Blk.cells T_decl_judge [(V.sl .no T_api_Pair m0_0), (V.sl .no T_api_Pair m0_1), (V.sl .no T_decl_Keep m0_2), (V.sl .no T_decl_Break m0_3), (V.sl .no T_decl_Watch m0_4), (V.sl .no T_api_Proc m0_5), (V.sl .no T_api_Proc m0_6), (V.sl .no T_L_api_Var m0_7), (V.sl .no T_int m0_8), (V.sl .no T_L_api_Var m0_9), (V.sl .no T_int m0_10)] false)] none =
    (bif (decide (a1 < (0 : Int))) then (some ⟨(Out.ret (V.int .i64 (Neg.neg (1 : Int)))), [(Blk.cells T_decl_judge [(V.sl .no T_api_Pair m0_0), (V.sl .no T_api_Pair m0_1), (V.sl .no T_decl_Keep m0_2), (V.sl .no T_decl_Break m0_3), (V.sl .no T_decl_Watch m0_4), (V.sl .no T_api_Proc m0_5), (V.sl .no T_api_Proc m0_6), (V.sl .no T_L_api_Var m0_7), (V.sl .no T_int m0_8), (V.sl .no T_L_api_Var m0_9), (V.sl .no T_int m0_10)] false)], none⟩) else (bif (decide (a1 > (1 : Int))) then (some ⟨(Out.ret (V.int .i64 (Neg.neg (1 : Int)))), [(Blk.cells T_decl_judge [(V.sl .no T_api_Pair m0_0), (V.sl .no T_api_Pair m0_1), (V.sl .no T_decl_Keep m0_2), (V.sl .no T_decl_Break m0_3), (V.sl .no T_decl_Watch m0_4), (V.sl .no T_api_Proc m0_5), (V.sl .no T_api_Proc m0_6), (V.sl .no T_L_api_Var m0_7), (V.sl .no T_int m0_8), (V.sl .no T_L_api_Var m0_9), (V.sl .no T_int m0_10)] false)], none⟩) else (if (a1 = ((1 : Nat) : Int)) then (L1_1_0_1_0 a2 m0_6 (m0_6.length : Int) (0 : Int) m0_0 m0_1 m0_2 m0_3 m0_4 m0_5 m0_6 m0_7 m0_8 m0_9 m0_10) else (if (a1 = ((0 : Nat) : Int)) then (L1_1_0_1_0 a2 m0_5 (m0_5.length : Int) (0 : Int) m0_0 m0_1 m0_2 m0_3 m0_4 m0_5 m0_6 m0_7 m0_8 m0_9 m0_10) else none)))) := (den_eq ..).trans (by kernel_rfl)
end decl_judge_proc
namespace decl_judge_variable
noncomputable abbrev e (p : List Nat) := ev Sp (den Sp) id Tryz.f141.ntmps (cAt (bodyOf Tryz.f141) p)
noncomputable abbrev cn (n0 : List Nat) := canon Sp id n0
noncomputable abbrev K : K := kFin Sp (den Sp) Tryz.f141 1
noncomputable def L1_0_1_1_0_1_0 (s0 : ByteArray) (l1 : List (List V)) (i2 i3 : Int) (l4 l5 l6 l7 l8 l9 l10 l11 l12 l13 l14 : List (List V)) : Option Res := LP (e [1, 0, 1, 1, 0, 1, 0, 0]) (cn [0, 1008]) (kBlk 0 (kSeq (e [1, 1]) (K))) ([(3, (V.str s0)), (8, (V.ref 1008 0)), (28, (V.sl .no T_api_Var l1)), (29, (V.int .i64 i2)), (30, (V.int .i64 i3))], ⟨[(0, (Blk.cells T_decl_judge [(V.sl .no T_api_Pair l4), (V.sl .no T_api_Pair l5), (V.sl .no T_decl_Keep l6), (V.sl .no T_decl_Break l7), (V.sl .no T_decl_Watch l8), (V.sl .no T_api_Proc l9), (V.sl .no T_api_Proc l10), (V.sl .no T_L_api_Var l11), (V.sl .no T_int l12), (V.sl .no T_L_api_Var l13), (V.sl .no T_int l14)] false)), (1008, (Blk.cells T_api_Var [(V.str (ByteArray.mk #[])), (V.int .i64 (0 : Int)), (V.int .i64 (0 : Int)), (V.int .i64 (0 : Int)), (V.int .i64 (0 : Int))] false))], [], [], [], none⟩)
theorem L1_0_1_1_0_1_0_eq (s0 : ByteArray) (l1 : List (List V)) (i2 i3 : Int) (l4 l5 l6 l7 l8 l9 l10 l11 l12 l13 l14 : List (List V)) : L1_0_1_1_0_1_0 s0 l1 i2 i3 l4 l5 l6 l7 l8 l9 l10 l11 l12 l13 l14 =
    (bif (decide (i3 < i2)) then (if (((0 : Int) ≤ i3) ∧ (i3 < (l1.length : Int))) then (V.asStr (List.getD (List.getD l1 (Int.toNat i3) []) 0 V.undef) (fun s51 => (V.asInt (List.getD (List.getD l1 (Int.toNat i3) []) 1 V.undef) .i64 (fun n52 => (V.asInt (List.getD (List.getD l1 (Int.toNat i3) []) 2 V.undef) .i64 (fun n53 => (V.asInt (List.getD (List.getD l1 (Int.toNat i3) []) 3 V.undef) .i64 (fun n54 => (V.asInt (List.getD (List.getD l1 (Int.toNat i3) []) 4 V.undef) .i64 (fun n55 => (bif (decide (s51 = s0)) then (some ⟨(Out.ret (V.tup [(V.agg [(V.str s51), (V.int .i64 n52), (V.int .i64 n53), (V.int .i64 n54), (V.int .i64 n55)]), (V.bool true)])), [(Blk.cells T_decl_judge [(V.sl .no T_api_Pair l4), (V.sl .no T_api_Pair l5), (V.sl .no T_decl_Keep l6), (V.sl .no T_decl_Break l7), (V.sl .no T_decl_Watch l8), (V.sl .no T_api_Proc l9), (V.sl .no T_api_Proc l10), (V.sl .no T_L_api_Var l11), (V.sl .no T_int l12), (V.sl .no T_L_api_Var l13), (V.sl .no T_int l14)] false)], none⟩) else (L1_0_1_1_0_1_0 s0 l1 i2 (IntKind.wrap .i64 (i3 + (1 : Int))) l4 l5 l6 l7 l8 l9 l10 l11 l12 l13 l14)))))))))))) else none) else (some ⟨(Out.ret (V.tup [(V.agg [(V.str (ByteArray.mk #[])), (V.int .i64 (0 : Int)), (V.int .i64 (0 : Int)), (V.int .i64 (0 : Int)), (V.int .i64 (0 : Int))]), (V.bool false)])), [(Blk.cells T_decl_judge [(V.sl .no T_api_Pair l4), (V.sl .no T_api_Pair l5), (V.sl .no T_decl_Keep l6), (V.sl .no T_decl_Break l7), (V.sl .no T_decl_Watch l8), (V.sl .no T_api_Proc l9), (V.sl .no T_api_Proc l10), (V.sl .no T_L_api_Var l11), (V.sl .no T_int l12), (V.sl .no T_L_api_Var l13), (V.sl .no T_int l14)] false)], none⟩)) := (LP_eq ..).trans (by kernel_rfl)
theorem eq (m0_0 m0_1 m0_2 m0_3 m0_4 m0_5 m0_6 m0_7 m0_8 m0_9 m0_10 : List (List V)) (a1 : Int) (a2 a3 : ByteArray) : den Sp id [(V.ref 0 0), (V.int .i64 a1), (V.str a2), (V.str a3)] [(Blk.cells T_decl_judge [(V.sl .no T_api_Pair m0_0), (V.sl .no T_api_Pair m0_1), (V.sl .no T_decl_Keep m0_2), (V.sl .no T_decl_Break m0_3), (V.sl .no T_decl_Watch m0_4), (V.sl .no T_api_Proc m0_5), (V.sl .no T_api_Proc m0_6), (V.sl .no T_L_api_Var m0_7), (V.sl .no T_int m0_8), (V.sl .no T_L_api_Var m0_9), (V.sl .no T_int m0_10)] false)] none =
    ((den Sp decl_judge_proc.id [(V.ref 0 0), (V.int .i64 a1), (V.str a2)] [(Blk.cells T_decl_judge [(V.sl .no T_api_Pair m0_0), (V.sl .no T_api_Pair m0_1), (V.sl .no T_decl_Keep m0_2), (V.sl .no T_decl_Break m0_3), (V.sl .no T_decl_Watch m0_4), (V.sl .no T_api_Proc m0_5), (V.sl .no T_api_Proc m0_6), (V.sl .no T_L_api_Var m0_7), (V.sl .no T_int m0_8), (V.sl .no T_L_api_Var m0_9), (V.sl .no T_int m0_10)] false)] none)).bind (fun r16 => (Blk.asCells (List.getD (Res.bl r16) 0 (Blk.cells T_n0 [] true)) T_decl_judge 11 (fun rd17 => (V.asSl (rd17 0) T_api_Pair (fun es18 => (V.asSl (rd17 1) T_api_Pair (fun es19 => (V.asSl (rd17 2) T_decl_Keep (fun es20 => (V.asSl (rd17 3) T_decl_Break (fun es21 => (V.asSl (rd17 4) T_decl_Watch (fun es22 => (V.asSl (rd17 5) T_api_Proc (fun es23 => (V.asSl (rd17 6) T_api_Proc (fun es24 => (V.asSl (rd17 7) T_L_api_Var (fun es25 => (V.asSl (rd17 8) T_int (fun es26 => (V.asSl (rd17 9) T_L_api_Var (fun es27 => (V.asSl (rd17 10) T_int (fun es28 => (Res.onRet r16 (fun v29 => (V.asInt v29 .i64 (fun n30 => (bif (decide (n30 ≥ (0 : Int))) then (if (a1 = ((1 : Nat) : Int)) then (if (((0 : Int) ≤ n30) ∧ (n30 < (es27.length : Int))) then (V.asSl (List.getD (List.getD es27 (Int.toNat n30) []) 0 V.undef) T_api_Var (fun es33 => (L1_0_1_1_0_1_0 a3 es33 (es33.length : Int) (0 : Int) es18 es19 es20 es21 es22 es23 es24 es25 es26 es27 es28))) else none) else (if (a1 = ((0 : Nat) : Int)) then (if (((0 : Int) ≤ n30) ∧ (n30 < (es25.length : Int))) then (V.asSl (List.getD (List.getD es25 (Int.toNat n30) []) 0 V.undef) T_api_Var (fun es33 => (L1_0_1_1_0_1_0 a3 es33 (es33.length : Int) (0 : Int) es18 es19 es20 es21 es22 es23 es24 es25 es26 es27 es28))) else none) else none)) else (some ⟨(Out.ret (V.tup [(V.agg [(V.str (ByteArray.mk #[])), (V.int .i64 (0 : Int)), (V.int .i64 (0 : Int)), (V.int .i64 (0 : Int)), (V.int .i64 (0 : Int))]), (V.bool false)])), [(Blk.cells T_decl_judge [(V.sl .no T_api_Pair es18), (V.sl .no T_api_Pair es19), (V.sl .no T_decl_Keep es20), (V.sl .no T_decl_Break es21), (V.sl .no T_decl_Watch es22), (V.sl .no T_api_Proc es23), (V.sl .no T_api_Proc es24), (V.sl .no T_L_api_Var es25), (V.sl .no T_int es26), (V.sl .no T_L_api_Var es27), (V.sl .no T_int es28)] false)], none⟩))))))))))))))))))))))))))))))) := (den_eq ..).trans (by kernel_rfl)
end decl_judge_variable
namespace decl_judge_keep
noncomputable abbrev e (p : List Nat) := ev Sp (den Sp) id Tryz.f94.ntmps (cAt (bodyOf Tryz.f94) p)
noncomputable abbrev cn (n0 : List Nat) := canon Sp id n0
noncomputable abbrev K : K := kFin Sp (den Sp) Tryz.f94 1
theorem eq (m0_0 m0_1 m0_2 m0_3 m0_4 m0_5 m0_6 m0_7 m0_8 m0_9 m0_10 : List (List V)) (a1 : Int) : den Sp id [(V.ref 0 0), (V.int .i64 a1)] [(Blk.cells T_decl_judge [(V.sl .no T_api_Pair m0_0), (V.sl .no T_api_Pair m0_1), (V.sl .no T_decl_Keep m0_2), (V.sl .no T_decl_Break m0_3), (V.sl .no T_decl_Watch m0_4), (V.sl .no T_api_Proc m0_5), (V.sl .no T_api_Proc m0_6), (V.sl .no T_L_api_Var m0_7), (V.sl .no T_int m0_8), (V.sl .no T_L_api_Var m0_9), (V.sl .no T_int m0_10)] false)] none =
    (if (((0 : Int) ≤ a1) ∧ (a1 < (m0_2.length : Int))) then (V.asInt (List.getD (List.getD m0_2 (Int.toNat a1) []) 0 V.undef) .i64 (fun n14 => (V.asStr (List.getD (List.getD m0_2 (Int.toNat a1) []) 1 V.undef) (fun s15 => (V.asStr (List.getD (List.getD m0_2 (Int.toNat a1) []) 2 V.undef) (fun s16 => ((den Sp decl_judge_variable.id [(V.ref 0 0), (V.int .i64 n14), (V.str s15), (V.str s16)] [(Blk.cells T_decl_judge [(V.sl .no T_api_Pair m0_0), (V.sl .no T_api_Pair m0_1), (V.sl .no T_decl_Keep m0_2), (V.sl .no T_decl_Break m0_3), (V.sl .no T_decl_Watch m0_4), (V.sl .no T_api_Proc m0_5), (V.sl .no T_api_Proc m0_6), (V.sl .no T_L_api_Var m0_7), (V.sl .no T_int m0_8), (V.sl .no T_L_api_Var m0_9), (V.sl .no T_int m0_10)] false)] none)).bind (fun r18 => (Blk.asCells (List.getD (Res.bl r18) 0 (Blk.cells T_n0 [] true)) T_decl_judge 11 (fun rd19 => (V.asSl (rd19 0) T_api_Pair (fun es20 => (V.asSl (rd19 1) T_api_Pair (fun es21 => (V.asSl (rd19 2) T_decl_Keep (fun es22 => (V.asSl (rd19 3) T_decl_Break (fun es23 => (V.asSl (rd19 4) T_decl_Watch (fun es24 => (V.asSl (rd19 5) T_api_Proc (fun es25 => (V.asSl (rd19 6) T_api_Proc (fun es26 => (V.asSl (rd19 7) T_L_api_Var (fun es27 => (V.asSl (rd19 8) T_int (fun es28 => (V.asSl (rd19 9) T_L_api_Var (fun es29 => (V.asSl (rd19 10) T_int (fun es30 => (Res.onRet r18 (fun v31 => (V.asTup v31 2 (fun rd32 => (V.asAgg (rd32 0) 5 (fun rd33 => (V.asStr (rd33 0) (fun s34 => (V.asInt (rd33 1) .i64 (fun n35 => (V.asInt (rd33 2) .i64 (fun n36 => (V.asInt (rd33 3) .i64 (fun n37 => (V.asInt (rd33 4) .i64 (fun n38 => (V.asBool (rd32 1) (fun b39 => (bif (!b39) then (some ⟨(Out.ret (V.int .i64 (40 : Int))), [(Blk.cells T_decl_judge [(V.sl .no T_api_Pair es20), (V.sl .no T_api_Pair es21), (V.sl .no T_decl_Keep es22), (V.sl .no T_decl_Break es23), (V.sl .no T_decl_Watch es24), (V.sl .no T_api_Proc es25), (V.sl .no T_api_Proc es26), (V.sl .no T_L_api_Var es27), (V.sl .no T_int es28), (V.sl .no T_L_api_Var es29), (V.sl .no T_int es30)] false)], none⟩) else (some ⟨(Out.ret (V.int .i64 (0 : Int))), [(Blk.cells T_decl_judge [(V.sl .no T_api_Pair es20), (V.sl .no T_api_Pair es21), (V.sl .no T_decl_Keep es22), (V.sl .no T_decl_Break es23), (V.sl .no T_decl_Watch es24), (V.sl .no T_api_Proc es25), (V.sl .no T_api_Proc es26), (V.sl .no T_L_api_Var es27), (V.sl .no T_int es28), (V.sl .no T_L_api_Var es29), (V.sl .no T_int es30)] false)], none⟩))))))))))))))))))))))))))))))))))))))))))))))))))) else none) := (den_eq ..).trans (by kernel_rfl)
end decl_judge_keep
namespace decl_judge_watch
noncomputable abbrev e (p : List Nat) := ev Sp (den Sp) id Tryz.f96.ntmps (cAt (bodyOf Tryz.f96) p)
noncomputable abbrev cn (n0 : List Nat) := canon Sp id n0
noncomputable abbrev K : K := kFin Sp (den Sp) Tryz.f96 1
theorem eq (m0_0 m0_1 m0_2 m0_3 m0_4 m0_5 m0_6 m0_7 m0_8 m0_9 m0_10 : List (List V)) (a1 : Int) : den Sp id [(V.ref 0 0), (V.int .i64 a1)] [(Blk.cells T_decl_judge [(V.sl .no T_api_Pair m0_0), (V.sl .no T_api_Pair m0_1), (V.sl .no T_decl_Keep m0_2), (V.sl .no T_decl_Break m0_3), (V.sl .no T_decl_Watch m0_4), (V.sl .no T_api_Proc m0_5), (V.sl .no T_api_Proc m0_6), (V.sl .no T_L_api_Var m0_7), (V.sl .no T_int m0_8), (V.sl .no T_L_api_Var m0_9), (V.sl .no T_int m0_10)] false)] none =
    (if (((0 : Int) ≤ a1) ∧ (a1 < (m0_4.length : Int))) then (V.asInt (List.getD (List.getD m0_4 (Int.toNat a1) []) 0 V.undef) .i64 (fun n14 => (V.asStr (List.getD (List.getD m0_4 (Int.toNat a1) []) 1 V.undef) (fun s15 => (V.asStr (List.getD (List.getD m0_4 (Int.toNat a1) []) 2 V.undef) (fun s16 => ((den Sp decl_judge_variable.id [(V.ref 0 0), (V.int .i64 n14), (V.str s15), (V.str s16)] [(Blk.cells T_decl_judge [(V.sl .no T_api_Pair m0_0), (V.sl .no T_api_Pair m0_1), (V.sl .no T_decl_Keep m0_2), (V.sl .no T_decl_Break m0_3), (V.sl .no T_decl_Watch m0_4), (V.sl .no T_api_Proc m0_5), (V.sl .no T_api_Proc m0_6), (V.sl .no T_L_api_Var m0_7), (V.sl .no T_int m0_8), (V.sl .no T_L_api_Var m0_9), (V.sl .no T_int m0_10)] false)] none)).bind (fun r18 => (Blk.asCells (List.getD (Res.bl r18) 0 (Blk.cells T_n0 [] true)) T_decl_judge 11 (fun rd19 => (V.asSl (rd19 0) T_api_Pair (fun es20 => (V.asSl (rd19 1) T_api_Pair (fun es21 => (V.asSl (rd19 2) T_decl_Keep (fun es22 => (V.asSl (rd19 3) T_decl_Break (fun es23 => (V.asSl (rd19 4) T_decl_Watch (fun es24 => (V.asSl (rd19 5) T_api_Proc (fun es25 => (V.asSl (rd19 6) T_api_Proc (fun es26 => (V.asSl (rd19 7) T_L_api_Var (fun es27 => (V.asSl (rd19 8) T_int (fun es28 => (V.asSl (rd19 9) T_L_api_Var (fun es29 => (V.asSl (rd19 10) T_int (fun es30 => (Res.onRet r18 (fun v31 => (V.asTup v31 2 (fun rd32 => (V.asAgg (rd32 0) 5 (fun rd33 => (V.asStr (rd33 0) (fun s34 => (V.asInt (rd33 1) .i64 (fun n35 => (V.asInt (rd33 2) .i64 (fun n36 => (V.asInt (rd33 3) .i64 (fun n37 => (V.asInt (rd33 4) .i64 (fun n38 => (V.asBool (rd32 1) (fun b39 => (bif (!b39) then (some ⟨(Out.ret (V.int .i64 (40 : Int))), [(Blk.cells T_decl_judge [(V.sl .no T_api_Pair es20), (V.sl .no T_api_Pair es21), (V.sl .no T_decl_Keep es22), (V.sl .no T_decl_Break es23), (V.sl .no T_decl_Watch es24), (V.sl .no T_api_Proc es25), (V.sl .no T_api_Proc es26), (V.sl .no T_L_api_Var es27), (V.sl .no T_int es28), (V.sl .no T_L_api_Var es29), (V.sl .no T_int es30)] false)], none⟩) else (bif (decide (n36 > (0 : Int))) then (some ⟨(Out.ret (V.int .i64 (41 : Int))), [(Blk.cells T_decl_judge [(V.sl .no T_api_Pair es20), (V.sl .no T_api_Pair es21), (V.sl .no T_decl_Keep es22), (V.sl .no T_decl_Break es23), (V.sl .no T_decl_Watch es24), (V.sl .no T_api_Proc es25), (V.sl .no T_api_Proc es26), (V.sl .no T_L_api_Var es27), (V.sl .no T_int es28), (V.sl .no T_L_api_Var es29), (V.sl .no T_int es30)] false)], none⟩) else (some ⟨(Out.ret (V.int .i64 (0 : Int))), [(Blk.cells T_decl_judge [(V.sl .no T_api_Pair es20), (V.sl .no T_api_Pair es21), (V.sl .no T_decl_Keep es22), (V.sl .no T_decl_Break es23), (V.sl .no T_decl_Watch es24), (V.sl .no T_api_Proc es25), (V.sl .no T_api_Proc es26), (V.sl .no T_L_api_Var es27), (V.sl .no T_int es28), (V.sl .no T_L_api_Var es29), (V.sl .no T_int es30)] false)], none⟩)))))))))))))))))))))))))))))))))))))))))))))))))))) else none) := (den_eq ..).trans (by kernel_rfl)
end decl_judge_watch
namespace decl_judge_stop
noncomputable abbrev e (p : List Nat) := ev Sp (den Sp) id Tryz.f95.ntmps (cAt (bodyOf Tryz.f95) p)
noncomputable abbrev cn (n0 : List Nat) := canon Sp id n0
noncomputable abbrev K : K := kFin Sp (den Sp) Tryz.f95 1
noncomputable def L1_1_1_1_1_0_1_0 (i0 : Int) (l1 : List (List V)) (i2 i3 : Int) (l4 l5 l6 l7 l8 l9 l10 l11 l12 l13 l14 : List (List V)) (i15 : Int) (s16 : ByteArray) (i17 : Int) (l18 : List (List V)) : Option Res := LP (e [1, 1, 1, 1, 1, 0, 1, 0, 0]) (cn [0, 1005]) (kBlk 0 (kSeq (e [1, 1, 1, 1, 1, 1]) (K))) ([(0, (V.ref 0 0)), (5, (V.ref 1005 0)), (6, (V.int .i64 i0)), (48, (V.sl .no T_api_Expr l1)), (49, (V.int .i64 i2)), (50, (V.int .i64 i3))], ⟨[(0, (Blk.cells T_decl_judge [(V.sl .no T_api_Pair l4), (V.sl .no T_api_Pair l5), (V.sl .no T_decl_Keep l6), (V.sl .no T_decl_Break l7), (V.sl .no T_decl_Watch l8), (V.sl .no T_api_Proc l9), (V.sl .no T_api_Proc l10), (V.sl .no T_L_api_Var l11), (V.sl .no T_int l12), (V.sl .no T_L_api_Var l13), (V.sl .no T_int l14)] false)), (1005, (Blk.cells T_decl_Break [(V.int .i64 i15), (V.str s16), (V.int .i64 i17), (V.sl .no T_api_Expr l18)] false))], [], [], [], none⟩)
theorem L1_1_1_1_1_0_1_0_eq (i0 : Int) (l1 : List (List V)) (i2 i3 : Int) (l4 l5 l6 l7 l8 l9 l10 l11 l12 l13 l14 : List (List V)) (i15 : Int) (s16 : ByteArray) (i17 : Int) (l18 : List (List V)) : L1_1_1_1_1_0_1_0 i0 l1 i2 i3 l4 l5 l6 l7 l8 l9 l10 l11 l12 l13 l14 i15 s16 i17 l18 =
    (bif (decide (i3 < i2)) then (if (((0 : Int) ≤ i3) ∧ (i3 < (l1.length : Int))) then (V.asInt (List.getD (List.getD l1 (Int.toNat i3) []) 0 V.undef) .i64 (fun n59 => (V.asStr (List.getD (List.getD l1 (Int.toNat i3) []) 1 V.undef) (fun s60 => (V.asInt (List.getD (List.getD l1 (Int.toNat i3) []) 2 V.undef) .i64 (fun n61 => (V.asSl (List.getD (List.getD l1 (Int.toNat i3) []) 3 V.undef) T_api_Expr (fun es62 => (if (i15 = ((1 : Nat) : Int)) then (if (((0 : Int) ≤ i0) ∧ (i0 < (l13.length : Int))) then (V.asSl (List.getD (List.getD l13 (Int.toNat i0) []) 0 V.undef) T_api_Var (fun es64 => ((den Sp check_TypeOf.id [(V.agg [(V.int .i64 n59), (V.str s60), (V.int .i64 n61), (V.sl .no T_api_Expr es62)]), (V.sl .no T_api_Var es64), (V.int .i64 i17)] [] none)).bind (fun r65 => (Res.onRet r65 (fun v66 => (V.asTup v66 2 (fun rd67 => (V.asInt (rd67 0) .i64 (fun n68 => (V.asInt (rd67 1) .i64 (fun n69 => (bif (n69 != (0 : Int)) then (some ⟨(Out.ret (V.int .i64 n69)), [(Blk.cells T_decl_judge [(V.sl .no T_api_Pair l4), (V.sl .no T_api_Pair l5), (V.sl .no T_decl_Keep l6), (V.sl .no T_decl_Break l7), (V.sl .no T_decl_Watch l8), (V.sl .no T_api_Proc l9), (V.sl .no T_api_Proc l10), (V.sl .no T_L_api_Var l11), (V.sl .no T_int l12), (V.sl .no T_L_api_Var l13), (V.sl .no T_int l14)] false)], none⟩) else (bif (n68 != (2 : Int)) then (some ⟨(Out.ret (V.int .i64 (41 : Int))), [(Blk.cells T_decl_judge [(V.sl .no T_api_Pair l4), (V.sl .no T_api_Pair l5), (V.sl .no T_decl_Keep l6), (V.sl .no T_decl_Break l7), (V.sl .no T_decl_Watch l8), (V.sl .no T_api_Proc l9), (V.sl .no T_api_Proc l10), (V.sl .no T_L_api_Var l11), (V.sl .no T_int l12), (V.sl .no T_L_api_Var l13), (V.sl .no T_int l14)] false)], none⟩) else (L1_1_1_1_1_0_1_0 i0 l1 i2 (IntKind.wrap .i64 (i3 + (1 : Int))) l4 l5 l6 l7 l8 l9 l10 l11 l12 l13 l14 i15 s16 i17 l18)))))))))))))) else none) else (if (i15 = ((0 : Nat) : Int)) then (if (((0 : Int) ≤ i0) ∧ (i0 < (l11.length : Int))) then (V.asSl (List.getD (List.getD l11 (Int.toNat i0) []) 0 V.undef) T_api_Var (fun es64 => ((den Sp check_TypeOf.id [(V.agg [(V.int .i64 n59), (V.str s60), (V.int .i64 n61), (V.sl .no T_api_Expr es62)]), (V.sl .no T_api_Var es64), (V.int .i64 i17)] [] none)).bind (fun r65 => (Res.onRet r65 (fun v66 => (V.asTup v66 2 (fun rd67 => (V.asInt (rd67 0) .i64 (fun n68 => (V.asInt (rd67 1) .i64 (fun n69 => (bif (n69 != (0 : Int)) then (some ⟨(Out.ret (V.int .i64 n69)), [(Blk.cells T_decl_judge [(V.sl .no T_api_Pair l4), (V.sl .no T_api_Pair l5), (V.sl .no T_decl_Keep l6), (V.sl .no T_decl_Break l7), (V.sl .no T_decl_Watch l8), (V.sl .no T_api_Proc l9), (V.sl .no T_api_Proc l10), (V.sl .no T_L_api_Var l11), (V.sl .no T_int l12), (V.sl .no T_L_api_Var l13), (V.sl .no T_int l14)] false)], none⟩) else (bif (n68 != (2 : Int)) then (some ⟨(Out.ret (V.int .i64 (41 : Int))), [(Blk.cells T_decl_judge [(V.sl .no T_api_Pair l4), (V.sl .no T_api_Pair l5), (V.sl .no T_decl_Keep l6), (V.sl .no T_decl_Break l7), (V.sl .no T_decl_Watch l8), (V.sl .no T_api_Proc l9), (V.sl .no T_api_Proc l10), (V.sl .no T_L_api_Var l11), (V.sl .no T_int l12), (V.sl .no T_L_api_Var l13), (V.sl .no T_int l14)] false)], none⟩) else (L1_1_1_1_1_0_1_0 i0 l1 i2 (IntKind.wrap .i64 (i3 + (1 : Int))) l4 l5 l6 l7 l8 l9 l10 l11 l12 l13 l14 i15 s16 i17 l18)))))))))))))) else none) else none)))))))))) else none) else (some ⟨(Out.ret (V.int .i64 (0 : Int))), [(Blk.cells T_decl_judge [(V.sl .no T_api_Pair l4), (V.sl .no T_api_Pair l5), (V.sl .no T_decl_Keep l6), (V.sl .no T_decl_Break l7), (V.sl .no T_decl_Watch l8), (V.sl .no T_api_Proc l9), (V.sl .no T_api_Proc l10), (V.sl .no T_L_api_Var l11), (V.sl .no T_int l12), (V.sl .no T_L_api_Var l13), (V.sl .no T_int l14)] false)], none⟩)) := (LP_eq ..).trans (by kernel_rfl)
theorem eq (m0_0 m0_1 m0_2 m0_3 m0_4 m0_5 m0_6 m0_7 m0_8 m0_9 m0_10 : List (List V)) (a1 : Int) : den Sp id [(V.ref 0 0), (V.int .i64 a1)] [(Blk.cells T_decl_judge [(V.sl .no T_api_Pair m0_0), (V.sl .no T_api_Pair m0_1), (V.sl .no T_decl_Keep m0_2), (V.sl .no T_decl_Break m0_3), (V.sl .no T_decl_Watch m0_4), (V.sl .no T_api_Proc m0_5), (V.sl .no T_api_Proc m0_6), (V.sl .no T_L_api_Var m0_7), (V.sl .no T_int m0_8), (V.sl .no T_L_api_Var m0_9), (V.sl .no T_int m0_10)] false)] none =
    (if (((0 : Int) ≤ a1) ∧ (a1 < (m0_3.length : Int))) then (V.asInt (List.getD (List.getD m0_3 (Int.toNat a1) []) 0 V.undef) .i64 (fun n14 => (V.asStr (List.getD (List.getD m0_3 (Int.toNat a1) []) 1 V.undef) (fun s15 => (V.asInt (List.getD (List.getD m0_3 (Int.toNat a1) []) 2 V.undef) .i64 (fun n16 => (V.asSl (List.getD (List.getD m0_3 (Int.toNat a1) []) 3 V.undef) T_api_Expr (fun es17 => ((den Sp decl_judge_proc.id [(V.ref 0 0), (V.int .i64 n14), (V.str s15)] [(Blk.cells T_decl_judge [(V.sl .no T_api_Pair m0_0), (V.sl .no T_api_Pair m0_1), (V.sl .no T_decl_Keep m0_2), (V.sl .no T_decl_Break m0_3), (V.sl .no T_decl_Watch m0_4), (V.sl .no T_api_Proc m0_5), (V.sl .no T_api_Proc m0_6), (V.sl .no T_L_api_Var m0_7), (V.sl .no T_int m0_8), (V.sl .no T_L_api_Var m0_9), (V.sl .no T_int m0_10)] false)] none)).bind (fun r19 => (Blk.asCells (List.getD (Res.bl r19) 0 (Blk.cells T_n0 [] true)) T_decl_judge 11 (fun rd20 => (V.asSl (rd20 0) T_api_Pair (fun es21 => (V.asSl (rd20 1) T_api_Pair (fun es22 => (V.asSl (rd20 2) T_decl_Keep (fun es23 => (V.asSl (rd20 3) T_decl_Break (fun es24 => (V.asSl (rd20 4) T_decl_Watch (fun es25 => (V.asSl (rd20 5) T_api_Proc (fun es26 => (V.asSl (rd20 6) T_api_Proc (fun es27 => (V.asSl (rd20 7) T_L_api_Var (fun es28 => (V.asSl (rd20 8) T_int (fun es29 => (V.asSl (rd20 9) T_L_api_Var (fun es30 => (V.asSl (rd20 10) T_int (fun es31 => (Res.onRet r19 (fun v32 => (V.asInt v32 .i64 (fun n33 => (bif (decide (n33 < (0 : Int))) then (some ⟨(Out.ret (V.int .i64 (40 : Int))), [(Blk.cells T_decl_judge [(V.sl .no T_api_Pair es21), (V.sl .no T_api_Pair es22), (V.sl .no T_decl_Keep es23), (V.sl .no T_decl_Break es24), (V.sl .no T_decl_Watch es25), (V.sl .no T_api_Proc es26), (V.sl .no T_api_Proc es27), (V.sl .no T_L_api_Var es28), (V.sl .no T_int es29), (V.sl .no T_L_api_Var es30), (V.sl .no T_int es31)] false)], none⟩) else (bif (decide (n16 < (0 : Int))) then (some ⟨(Out.ret (V.int .i64 (80 : Int))), [(Blk.cells T_decl_judge [(V.sl .no T_api_Pair es21), (V.sl .no T_api_Pair es22), (V.sl .no T_decl_Keep es23), (V.sl .no T_decl_Break es24), (V.sl .no T_decl_Watch es25), (V.sl .no T_api_Proc es26), (V.sl .no T_api_Proc es27), (V.sl .no T_L_api_Var es28), (V.sl .no T_int es29), (V.sl .no T_L_api_Var es30), (V.sl .no T_int es31)] false)], none⟩) else (if (n14 = ((1 : Nat) : Int)) then (if (((0 : Int) ≤ n33) ∧ (n33 < (es31.length : Int))) then (V.asInt (List.getD (List.getD es31 (Int.toNat n33) []) 0 V.undef) .i64 (fun n36 => (bif (decide (n16 > (IntKind.wrap .i64 (n36 + (1 : Int))))) then (some ⟨(Out.ret (V.int .i64 (80 : Int))), [(Blk.cells T_decl_judge [(V.sl .no T_api_Pair es21), (V.sl .no T_api_Pair es22), (V.sl .no T_decl_Keep es23), (V.sl .no T_decl_Break es24), (V.sl .no T_decl_Watch es25), (V.sl .no T_api_Proc es26), (V.sl .no T_api_Proc es27), (V.sl .no T_L_api_Var es28), (V.sl .no T_int es29), (V.sl .no T_L_api_Var es30), (V.sl .no T_int es31)] false)], none⟩) else (L1_1_1_1_1_0_1_0 n33 es17 (es17.length : Int) (0 : Int) es21 es22 es23 es24 es25 es26 es27 es28 es29 es30 es31 n14 s15 n16 es17)))) else none) else (if (n14 = ((0 : Nat) : Int)) then (if (((0 : Int) ≤ n33) ∧ (n33 < (es29.length : Int))) then (V.asInt (List.getD (List.getD es29 (Int.toNat n33) []) 0 V.undef) .i64 (fun n36 => (bif (decide (n16 > (IntKind.wrap .i64 (n36 + (1 : Int))))) then (some ⟨(Out.ret (V.int .i64 (80 : Int))), [(Blk.cells T_decl_judge [(V.sl .no T_api_Pair es21), (V.sl .no T_api_Pair es22), (V.sl .no T_decl_Keep es23), (V.sl .no T_decl_Break es24), (V.sl .no T_decl_Watch es25), (V.sl .no T_api_Proc es26), (V.sl .no T_api_Proc es27), (V.sl .no T_L_api_Var es28), (V.sl .no T_int es29), (V.sl .no T_L_api_Var es30), (V.sl .no T_int es31)] false)], none⟩) else (L1_1_1_1_1_0_1_0 n33 es17 (es17.length : Int) (0 : Int) es21 es22 es23 es24 es25 es26 es27 es28 es29 es30 es31 n14 s15 n16 es17)))) else none) else none))))))))))))))))))))))))))))))))))))))))) else none) := (den_eq ..).trans (by kernel_rfl)
end decl_judge_stop
namespace decl_judge_pair
noncomputable abbrev e (p : List Nat) := ev Sp (den Sp) id Tryz.f92.ntmps (cAt (bodyOf Tryz.f92) p)
noncomputable abbrev cn (n0 : List Nat) := canon Sp id n0
noncomputable abbrev K : K := kFin Sp (den Sp) Tryz.f92 1
noncomputable def L1_1_1_0_1_0 (l0 : List (List V)) (i1 i2 : Int) (l3 l4 l5 l6 l7 l8 l9 l10 l11 l12 l13 : List (List V)) (s14 s15 s16 s17 : ByteArray) : Option Res := LP (e [1, 1, 1, 0, 1, 0, 0]) (cn [0, 1005]) (kBlk 0 (kSeq (e [1, 1, 1, 1]) (K))) ([(5, (V.ref 1005 0)), (34, (V.sl .no T_api_Pair l0)), (35, (V.int .i64 i1)), (36, (V.int .i64 i2))], ⟨[(0, (Blk.cells T_decl_judge [(V.sl .no T_api_Pair l3), (V.sl .no T_api_Pair l4), (V.sl .no T_decl_Keep l5), (V.sl .no T_decl_Break l6), (V.sl .no T_decl_Watch l7), (V.sl .no T_api_Proc l8), (V.sl .no T_api_Proc l9), (V.sl .no T_L_api_Var l10), (V.sl .no T_int l11), (V.sl .no T_L_api_Var l12), (V.sl .no T_int l13)] false)), (1005, (Blk.cells T_api_Pair [(V.str s14), (V.str s15), (V.str s16), (V.str s17)] false))], [], [], [], none⟩)
theorem L1_1_1_0_1_0_eq (l0 : List (List V)) (i1 i2 : Int) (l3 l4 l5 l6 l7 l8 l9 l10 l11 l12 l13 : List (List V)) (s14 s15 s16 s17 : ByteArray) : L1_1_1_0_1_0 l0 i1 i2 l3 l4 l5 l6 l7 l8 l9 l10 l11 l12 l13 s14 s15 s16 s17 =
    (bif (decide (i2 < i1)) then (if (((0 : Int) ≤ i2) ∧ (i2 < (l0.length : Int))) then (V.asStr (List.getD (List.getD l0 (Int.toNat i2) []) 0 V.undef) (fun s70 => (V.asStr (List.getD (List.getD l0 (Int.toNat i2) []) 1 V.undef) (fun s71 => (V.asStr (List.getD (List.getD l0 (Int.toNat i2) []) 2 V.undef) (fun s72 => (V.asStr (List.getD (List.getD l0 (Int.toNat i2) []) 3 V.undef) (fun s73 => (bif (decide (s70 = s14)) then (some ⟨(Out.ret (V.int .i64 (90 : Int))), [(Blk.cells T_decl_judge [(V.sl .no T_api_Pair l3), (V.sl .no T_api_Pair l4), (V.sl .no T_decl_Keep l5), (V.sl .no T_decl_Break l6), (V.sl .no T_decl_Watch l7), (V.sl .no T_api_Proc l8), (V.sl .no T_api_Proc l9), (V.sl .no T_L_api_Var l10), (V.sl .no T_int l11), (V.sl .no T_L_api_Var l12), (V.sl .no T_int l13)] false)], none⟩) else (bif (decide (s71 = s15)) then (some ⟨(Out.ret (V.int .i64 (90 : Int))), [(Blk.cells T_decl_judge [(V.sl .no T_api_Pair l3), (V.sl .no T_api_Pair l4), (V.sl .no T_decl_Keep l5), (V.sl .no T_decl_Break l6), (V.sl .no T_decl_Watch l7), (V.sl .no T_api_Proc l8), (V.sl .no T_api_Proc l9), (V.sl .no T_L_api_Var l10), (V.sl .no T_int l11), (V.sl .no T_L_api_Var l12), (V.sl .no T_int l13)] false)], none⟩) else (L1_1_1_0_1_0 l0 i1 (IntKind.wrap .i64 (i2 + (1 : Int))) l3 l4 l5 l6 l7 l8 l9 l10 l11 l12 l13 s14 s15 s16 s17))))))))))) else none) else (some ⟨(Out.ret (V.int .i64 (0 : Int))), [(Blk.cells T_decl_judge [(V.sl .no T_api_Pair l3), (V.sl .no T_api_Pair l4), (V.sl .no T_decl_Keep l5), (V.sl .no T_decl_Break l6), (V.sl .no T_decl_Watch l7), (V.sl .no T_api_Proc l8), (V.sl .no T_api_Proc l9), (V.sl .no T_L_api_Var l10), (V.sl .no T_int l11), (V.sl .no T_L_api_Var l12), (V.sl .no T_int l13)] false)], none⟩)) := (LP_eq ..).trans (by kernel_rfl)
theorem eq (m0_0 m0_1 m0_2 m0_3 m0_4 m0_5 m0_6 m0_7 m0_8 m0_9 m0_10 : List (List V)) (a1 : Int) : den Sp id [(V.ref 0 0), (V.int .i64 a1)] [(Blk.cells T_decl_judge [(V.sl .no T_api_Pair m0_0), (V.sl .no T_api_Pair m0_1), (V.sl .no T_decl_Keep m0_2), (V.sl .no T_decl_Break m0_3), (V.sl .no T_decl_Watch m0_4), (V.sl .no T_api_Proc m0_5), (V.sl .no T_api_Proc m0_6), (V.sl .no T_L_api_Var m0_7), (V.sl .no T_int m0_8), (V.sl .no T_L_api_Var m0_9), (V.sl .no T_int m0_10)] false)] none =
    (if (((0 : Int) ≤ a1) ∧ (a1 < (m0_0.length : Int))) then (V.asStr (List.getD (List.getD m0_0 (Int.toNat a1) []) 0 V.undef) (fun s14 => (V.asStr (List.getD (List.getD m0_0 (Int.toNat a1) []) 1 V.undef) (fun s15 => (V.asStr (List.getD (List.getD m0_0 (Int.toNat a1) []) 2 V.undef) (fun s16 => (V.asStr (List.getD (List.getD m0_0 (Int.toNat a1) []) 3 V.undef) (fun s17 => ((den Sp decl_judge_proc.id [(V.ref 0 0), (V.int .i64 (0 : Int)), (V.str s14)] [(Blk.cells T_decl_judge [(V.sl .no T_api_Pair m0_0), (V.sl .no T_api_Pair m0_1), (V.sl .no T_decl_Keep m0_2), (V.sl .no T_decl_Break m0_3), (V.sl .no T_decl_Watch m0_4), (V.sl .no T_api_Proc m0_5), (V.sl .no T_api_Proc m0_6), (V.sl .no T_L_api_Var m0_7), (V.sl .no T_int m0_8), (V.sl .no T_L_api_Var m0_9), (V.sl .no T_int m0_10)] false)] none)).bind (fun r19 => (Blk.asCells (List.getD (Res.bl r19) 0 (Blk.cells T_n0 [] true)) T_decl_judge 11 (fun rd20 => (V.asSl (rd20 0) T_api_Pair (fun es21 => (V.asSl (rd20 1) T_api_Pair (fun es22 => (V.asSl (rd20 2) T_decl_Keep (fun es23 => (V.asSl (rd20 3) T_decl_Break (fun es24 => (V.asSl (rd20 4) T_decl_Watch (fun es25 => (V.asSl (rd20 5) T_api_Proc (fun es26 => (V.asSl (rd20 6) T_api_Proc (fun es27 => (V.asSl (rd20 7) T_L_api_Var (fun es28 => (V.asSl (rd20 8) T_int (fun es29 => (V.asSl (rd20 9) T_L_api_Var (fun es30 => (V.asSl (rd20 10) T_int (fun es31 => (Res.onRet r19 (fun v32 => (V.asInt v32 .i64 (fun n33 => (bif (decide (n33 < (0 : Int))) then (some ⟨(Out.ret (V.int .i64 (40 : Int))), [(Blk.cells T_decl_judge [(V.sl .no T_api_Pair es21), (V.sl .no T_api_Pair es22), (V.sl .no T_decl_Keep es23), (V.sl .no T_decl_Break es24), (V.sl .no T_decl_Watch es25), (V.sl .no T_api_Proc es26), (V.sl .no T_api_Proc es27), (V.sl .no T_L_api_Var es28), (V.sl .no T_int es29), (V.sl .no T_L_api_Var es30), (V.sl .no T_int es31)] false)], none⟩) else ((den Sp decl_judge_proc.id [(V.ref 0 0), (V.int .i64 (1 : Int)), (V.str s15)] [(Blk.cells T_decl_judge [(V.sl .no T_api_Pair es21), (V.sl .no T_api_Pair es22), (V.sl .no T_decl_Keep es23), (V.sl .no T_decl_Break es24), (V.sl .no T_decl_Watch es25), (V.sl .no T_api_Proc es26), (V.sl .no T_api_Proc es27), (V.sl .no T_L_api_Var es28), (V.sl .no T_int es29), (V.sl .no T_L_api_Var es30), (V.sl .no T_int es31)] false)] none)).bind (fun r34 => (Blk.asCells (List.getD (Res.bl r34) 0 (Blk.cells T_n0 [] true)) T_decl_judge 11 (fun rd35 => (V.asSl (rd35 0) T_api_Pair (fun es36 => (V.asSl (rd35 1) T_api_Pair (fun es37 => (V.asSl (rd35 2) T_decl_Keep (fun es38 => (V.asSl (rd35 3) T_decl_Break (fun es39 => (V.asSl (rd35 4) T_decl_Watch (fun es40 => (V.asSl (rd35 5) T_api_Proc (fun es41 => (V.asSl (rd35 6) T_api_Proc (fun es42 => (V.asSl (rd35 7) T_L_api_Var (fun es43 => (V.asSl (rd35 8) T_int (fun es44 => (V.asSl (rd35 9) T_L_api_Var (fun es45 => (V.asSl (rd35 10) T_int (fun es46 => (Res.onRet r34 (fun v47 => (V.asInt v47 .i64 (fun n48 => (bif (decide (n48 < (0 : Int))) then (some ⟨(Out.ret (V.int .i64 (40 : Int))), [(Blk.cells T_decl_judge [(V.sl .no T_api_Pair es36), (V.sl .no T_api_Pair es37), (V.sl .no T_decl_Keep es38), (V.sl .no T_decl_Break es39), (V.sl .no T_decl_Watch es40), (V.sl .no T_api_Proc es41), (V.sl .no T_api_Proc es42), (V.sl .no T_L_api_Var es43), (V.sl .no T_int es44), (V.sl .no T_L_api_Var es45), (V.sl .no T_int es46)] false)], none⟩) else (if ((0 : Int) ≤ a1) then (if ((0 ≤ (Int.toNat a1)) ∧ ((Int.toNat a1) ≤ (List.length es36))) then (L1_1_1_0_1_0 (List.take ((Int.toNat a1) - 0) (List.drop 0 es36)) (((List.length (List.take ((Int.toNat a1) - 0) (List.drop 0 es36))) : Nat) : Int) (0 : Int) es36 es37 es38 es39 es40 es41 es42 es43 es44 es45 es46 s14 s15 s16 s17) else none) else none))))))))))))))))))))))))))))))))))))))))))))))))))))))))))))))))))))) else none) := (den_eq ..).trans (by kernel_rfl)
end decl_judge_pair
end Go.Proofs.YtmhnmelaodhemaaGreatDoor
namespace Go.Proofs.YtmhnmelaodhemaaGreatDoor
open Go Go.Proofs.Ab Go.Proofs.Px
set_option linter.unusedVariables false
set_option linter.unusedSimpArgs false
set_option maxRecDepth 100000
def judgeB (f : Fl) (a b : List Prc) : Blk := .cells T_decl_judge [.sl .no T_api_Pair (f.pairs.map Pai.v), .sl .no T_api_Pair (f.sames.map Pai.v), .sl .no T_decl_Keep (f.keeps.map Kp.v), .sl .no T_decl_Break (f.breaks.map Bk.v), .sl .no T_decl_Watch (f.watches.map Wt.v), .sl .no T_api_Proc (a.map Prc.v), .sl .no T_api_Proc (b.map Prc.v), .sl .no T_L_api_Var (vrows (a.map varsP)), .sl .no T_int (iv (a.map fun q => (Stm.counts q.body : Int))), .sl .no T_L_api_Var (vrows (b.map varsP)), .sl .no T_int (iv (b.map fun q => (Stm.counts q.body : Int)))] false
theorem vrows_el (l : List (List Vr)) (i : Nat) (h : i < (vrows l).length) : (vrows l)[i] = [.sl .no T_api_Var ((l[i]'(by rw [vrows_len] at h; exact h)).map Vr.v)] := by simp [vrows]
section
variable (f : Fl) (a b : List Prc) (ha : Smalls a) (hb : Smalls b)
include ha hb
theorem judge_proc_is (n : Int) (s : List UInt8) : den Sp decl_judge_proc.id [.ref 0 0, .int .i64 n, .str (B s)] [judgeB f a b] none = some ⟨.ret (.int .i64 (match ofS n a b with | some ps => procI s ps 0 | none => -1)), [judgeB f a b], none⟩ := by
  have key : ∀ ps : List Prc, ps.length ≤ 1000000 → ∀ i : Nat, i ≤ ps.length → decl_judge_proc.L1_1_0_1_0 (B s) (ps.map Prc.v) (ps.length : Int) (i : Int) (f.pairs.map Pai.v) (f.sames.map Pai.v) (f.keeps.map Kp.v) (f.breaks.map Bk.v) (f.watches.map Wt.v) (a.map Prc.v) (b.map Prc.v) (vrows (a.map varsP)) (iv (a.map fun q => (Stm.counts q.body : Int))) (vrows (b.map varsP)) (iv (b.map fun q => (Stm.counts q.body : Int))) =
      some ⟨.ret (.int .i64 (procI s (ps.drop i) (i : Int))), [judgeB f a b], none⟩ := by
    intro ps hps
    refine down ?_ fun i hi ih => ?_
    · rw [decl_judge_proc.L1_1_0_1_0_eq]; simp [procI, judgeB]
    · simp only [Int.natCast_add, Int.natCast_one] at ih
      rw [decl_judge_proc.L1_1_0_1_0_eq, List.drop_eq_getElem_cons hi, procI]
      by_cases c : ps[i].name = s
      · simp (disch := omega) [hi, wrap_in, c]; rfl
      · simp (disch := omega) [hi, wrap_in, c, ih]
  have ka := key a ha.len 0 (Nat.zero_le _)
  have kb := key b hb.len 0 (Nat.zero_le _)
  simp only [Int.natCast_zero, List.drop_zero] at ka kb
  unfold judgeB at ka kb ⊢
  rw [decl_judge_proc.eq]
  unfold ofS
  by_cases h1 : n = 1
  · subst h1; simp [kb]
  · by_cases h0 : n = 0
    · subst h0; simp [ka]
    · by_cases c1 : n < 0
      · simp [h1, h0, c1]
      · have c2 : n > 1 := by omega
        simp [h1, h0, c1, c2]
theorem judge_variable_is (n : Int) (s t : List UInt8) : den Sp decl_judge_variable.id [.ref 0 0, .int .i64 n, .str (B s), .str (B t)] [judgeB f a b] none = some ⟨.ret (varA (match ofS n a b with | some ps => declV ps s t | none => none)), [judgeB f a b], none⟩ := by
  have key : ∀ vs : List Vr, vs.length ≤ 3000000 → ∀ i : Nat, i ≤ vs.length → decl_judge_variable.L1_0_1_1_0_1_0 (B t) (vs.map Vr.v) (vs.length : Int) (i : Int) (f.pairs.map Pai.v) (f.sames.map Pai.v) (f.keeps.map Kp.v) (f.breaks.map Bk.v) (f.watches.map Wt.v) (a.map Prc.v) (b.map Prc.v) (vrows (a.map varsP)) (iv (a.map fun q => (Stm.counts q.body : Int))) (vrows (b.map varsP)) (iv (b.map fun q => (Stm.counts q.body : Int))) =
      some ⟨.ret (varA (varQ t (vs.drop i))), [judgeB f a b], none⟩ := by
    intro vs hvs
    refine down ?_ fun i hi ih => ?_
    · rw [decl_judge_variable.L1_0_1_1_0_1_0_eq]; simp [varQ, varA, judgeB]; rfl
    · simp only [Int.natCast_add, Int.natCast_one] at ih
      rw [decl_judge_variable.L1_0_1_1_0_1_0_eq, List.drop_eq_getElem_cons hi, varQ]
      by_cases c : vs[i].name = t
      · simp (disch := omega) [hi, c, varA]
        simp [Vr.v, c, judgeB]
      · simp (disch := omega) [hi, wrap_in, c, ih]
  have hp := judge_proc_is f a b ha hb n s
  have hlen : ∀ (ps : List Prc), Smalls ps → ∀ (j : Nat) (hj : j < ps.length), (varsP ps[j]).length ≤ 3000000 := fun ps hs j hj => by
    obtain ⟨hq1, hq2⟩ := hs.proc _ (List.getElem_mem hj)
    exact varsP_len _ hq1 hq2
  unfold judgeB at hp key ⊢
  rw [decl_judge_variable.eq, hp]
  unfold ofS declV
  by_cases h1 : n = 1
  · subst h1
    rcases proc_cases s b 0 with ⟨h1, h2⟩ | ⟨j, hj, h1, h2⟩
    · simp [h1, h2, varA]; rfl
    · have k0 := key (varsP b[j]) (hlen b hb j hj) 0 (Nat.zero_le _)
      simp only [Int.natCast_zero, List.drop_zero] at k0
      have hvl : (vrows (b.map varsP)).length = b.length := by simp [vrows]
      simp (disch := first | omega | rfl) [h1, h2, hvl, hj]
      simp [hvl, hj, vrows_el, k0]
  · by_cases h0 : n = 0
    · subst h0
      rcases proc_cases s a 0 with ⟨h1, h2⟩ | ⟨j, hj, h1, h2⟩
      · simp [h1, h2, varA]; rfl
      · have k0 := key (varsP a[j]) (hlen a ha j hj) 0 (Nat.zero_le _)
        simp only [Int.natCast_zero, List.drop_zero] at k0
        have hvl : (vrows (a.map varsP)).length = a.length := by simp [vrows]
        simp (disch := first | omega | rfl) [h1, h2, hvl, hj]
        simp [hvl, hj, vrows_el, k0]
    · simp [h1, h0, varA]; rfl
theorem judge_keep_is (i : Nat) (hi : i < f.keeps.length) : den Sp decl_judge_keep.id [.ref 0 0, .int .i64 (i : Int)] [judgeB f a b] none = some ⟨.ret (.int .i64 (keepE a b f.keeps[i])), [judgeB f a b], none⟩ := by
  have hv := judge_variable_is f a b ha hb f.keeps[i].side f.keeps[i].prc f.keeps[i].vr
  unfold judgeB at hv ⊢
  rw [decl_judge_keep.eq]
  unfold keepE
  cases ho : ofS f.keeps[i].side a b with
  | none => simp [hi, hv, ho, varA]
  | some ps => cases hd : declV ps f.keeps[i].prc f.keeps[i].vr <;> simp [hi, hv, ho, hd, varA]
theorem judge_watch_is (i : Nat) (hi : i < f.watches.length) : den Sp decl_judge_watch.id [.ref 0 0, .int .i64 (i : Int)] [judgeB f a b] none = some ⟨.ret (.int .i64 (watchE a b f.watches[i])), [judgeB f a b], none⟩ := by
  have hv := judge_variable_is f a b ha hb f.watches[i].side f.watches[i].prc f.watches[i].vr
  unfold judgeB at hv ⊢
  rw [decl_judge_watch.eq]
  unfold watchE
  cases ho : ofS f.watches[i].side a b with
  | none => simp [hi, hv, ho, varA]
  | some ps =>
    cases hd : declV ps f.watches[i].prc f.watches[i].vr with
    | none => simp [hi, hv, ho, hd, varA]
    | some v => by_cases c : 0 < v.size <;> simp [hi, hv, ho, hd, varA, c]
end
end Go.Proofs.YtmhnmelaodhemaaGreatDoor
namespace Go.Proofs.YtmhnmelaodhemaaGreatDoor
open Go Go.Proofs.Ab Go.Proofs.Px
set_option linter.unusedVariables false
set_option linter.unusedSimpArgs false
set_option maxRecDepth 100000
theorem iv_len (l : List Int) : (iv l).length = l.length := by simp [iv]
theorem iv_el (l : List Int) (i : Nat) (h : i < (iv l).length) : (iv l)[i] = [.int .i64 (l[i]'(by rw [iv_len] at h; exact h))] := by simp [iv]
section
variable (f : Fl) (a b : List Prc) (ha : Smalls a) (hb : Smalls b)
include ha hb
theorem judge_stop_is (i : Nat) (hi : i < f.breaks.length) (hw : f.breaks[i].whn.length ≤ 1000000) : den Sp decl_judge_stop.id [.ref 0 0, .int .i64 (i : Int)] [judgeB f a b] none = some ⟨.ret (.int .i64 (stopE a b f.breaks[i])), [judgeB f a b], none⟩ := by
  have hp := judge_proc_is f a b ha hb f.breaks[i].side f.breaks[i].prc
  have key : ∀ (n : Int) (ps : List Prc), (n = 1 ∧ ps = b ∨ n = 0 ∧ ps = a) → ∀ (j : Nat) (hj : j < ps.length), (varsP ps[j]).length ≤ 3000000 → ∀ (xs : List Ex) (pr : List UInt8) (m : Int), xs.length ≤ 1000000 → ∀ k : Nat, k ≤ xs.length →
      decl_judge_stop.L1_1_1_1_1_0_1_0 (j : Int) (xs.map Ex.v) (xs.length : Int) (k : Int) (f.pairs.map Pai.v) (f.sames.map Pai.v) (f.keeps.map Kp.v) (f.breaks.map Bk.v) (f.watches.map Wt.v) (a.map Prc.v) (b.map Prc.v) (vrows (a.map varsP)) (iv (a.map fun q => (Stm.counts q.body : Int))) (vrows (b.map varsP)) (iv (b.map fun q => (Stm.counts q.body : Int))) n (B pr) m (xs.map Ex.v) =
      some ⟨.ret (.int .i64 (whenE (varsP ps[j]) m (xs.drop k))), [judgeB f a b], none⟩ := by
    intro n ps hn j hj hv xs pr m hx
    refine down ?_ fun k hk ih => ?_
    · rw [decl_judge_stop.L1_1_1_1_1_0_1_0_eq]; simp [whenE, judgeB]
    · simp only [Int.natCast_add, Int.natCast_one] at ih
      have ht := check_TypeOf_is (varsP ps[j]) (by omega) m xs[k]
      have hal : (vrows (a.map varsP)).length = a.length := by simp [vrows]
      have hbl : (vrows (b.map varsP)).length = b.length := by simp [vrows]
      rw [decl_judge_stop.L1_1_1_1_1_0_1_0_eq, List.drop_eq_getElem_cons hk, whenE]
      rcases hn with ⟨rfl, rfl⟩ | ⟨rfl, rfl⟩
      · by_cases c1 : (tyP (varsP ps[j]) m xs[k]).1 = 0
        · by_cases c2 : (tyP (varsP ps[j]) m xs[k]).2 = 2 <;> simp (disch := omega) [hk, hbl, hj, vrows_el, ht, c1, c2, wrap_in, ih, List.getElem?_cons_zero, judgeB]
        · simp (disch := omega) [hk, hbl, hj, vrows_el, ht, c1, List.getElem?_cons_zero, judgeB]
      · by_cases c1 : (tyP (varsP ps[j]) m xs[k]).1 = 0
        · by_cases c2 : (tyP (varsP ps[j]) m xs[k]).2 = 2 <;> simp (disch := omega) [hk, hal, hj, vrows_el, ht, c1, c2, wrap_in, ih, List.getElem?_cons_zero, judgeB]
        · simp (disch := omega) [hk, hal, hj, vrows_el, ht, c1, List.getElem?_cons_zero, judgeB]
  have hlen : ∀ (ps : List Prc), Smalls ps → ∀ (j : Nat) (hj : j < ps.length), (varsP ps[j]).length ≤ 3000000 ∧ Stm.counts ps[j].body ≤ 1000000 := fun ps hs j hj => by
    obtain ⟨hq1, hq2⟩ := hs.proc _ (List.getElem_mem hj)
    exact ⟨varsP_len _ hq1 hq2, hq2⟩
  have hal : (iv (a.map fun q => (Stm.counts q.body : Int))).length = a.length := by simp [iv]
  have hbl : (iv (b.map fun q => (Stm.counts q.body : Int))).length = b.length := by simp [iv]
  unfold judgeB at hp key ⊢
  rw [decl_judge_stop.eq]
  unfold stopE
  generalize hx : f.breaks[i] = x at hp hw ⊢
  have hxi : List.getD (f.breaks.map Bk.v) i [] = x.v := by rw [map_at _ _ _ hi, hx]
  simp only [List.length_map, if_pos (in_row hi), Int.toNat_natCast, hxi, Bk.v_0, Bk.v_1, Bk.v_2, Bk.v_3, asInt_int, asStr_str, asSl_sl, hp, Option.bind_some, bl_mk, List.getD_cons_zero, List.getD_cons_succ, Nat.zero_add, Nat.reduceAdd, asCells_11, onRet_ret]
  cases ho : ofS x.side a b with
  | none => simp
  | some ps =>
    obtain ⟨hn, hS⟩ : (x.side = 1 ∧ ps = b ∨ x.side = 0 ∧ ps = a) ∧ Smalls ps := by
      unfold ofS at ho
      split at ho
      · cases ho; exact ⟨.inl ⟨‹_›, rfl⟩, hb⟩
      · split at ho
        · cases ho; exact ⟨.inr ⟨‹_›, rfl⟩, ha⟩
        · cases ho
    rcases proc_cases x.prc ps 0 with ⟨h1, h2⟩ | ⟨j, hj, h1, h2⟩
    · simp [h1, h2]
    · obtain ⟨q1, q2⟩ := hlen ps hS j hj
      have k0 := key x.side ps hn j hj q1 x.whn x.prc x.mark hw 0 (Nat.zero_le _)
      simp only [Int.natCast_zero, List.drop_zero] at k0
      by_cases c1 : x.mark < 0
      · have c4 : ¬ ((j : Nat) : Int) < 0 := by omega
        simp [h1, h2, c1, c4]
      · have hwr : IntKind.wrap .i64 ((Stm.counts ps[j].body : Int) + 1) = (Stm.counts ps[j].body : Int) + 1 := wrap_in (by omega) (by omega)
        have c4 : ¬ ((j : Nat) : Int) < 0 := by omega
        rcases hn with ⟨hn, rfl⟩ | ⟨hn, rfl⟩
        · rw [hn] at k0
          by_cases c2 : (Stm.counts ps[j].body : Int) + 1 < x.mark
          · simp [h1, h2, hn, c1, c4, hbl, hj, iv_el, hwr, c2]
          · simp [h1, h2, hn, c1, c4, hbl, hj, iv_el, hwr, c2, k0]
        · rw [hn] at k0
          by_cases c2 : (Stm.counts ps[j].body : Int) + 1 < x.mark
          · simp [h1, h2, hn, c1, c4, hal, hj, iv_el, hwr, c2]
          · simp [h1, h2, hn, c1, c4, hal, hj, iv_el, hwr, c2, k0]
theorem judge_pair_is (i : Nat) (hi : i < f.pairs.length) (hl : f.pairs.length ≤ 1000000) : den Sp decl_judge_pair.id [.ref 0 0, .int .i64 (i : Int)] [judgeB f a b] none = some ⟨.ret (.int .i64 (pairE a b (f.pairs.take i) f.pairs[i])), [judgeB f a b], none⟩ := by
  have p1 := judge_proc_is f a b ha hb 0 f.pairs[i].procA
  have p2 := judge_proc_is f a b ha hb 1 f.pairs[i].procB
  have key : ∀ l : List Pai, l.length ≤ 1000000 → ∀ k : Nat, k ≤ l.length → decl_judge_pair.L1_1_1_0_1_0 (l.map Pai.v) (l.length : Int) (k : Int) (f.pairs.map Pai.v) (f.sames.map Pai.v) (f.keeps.map Kp.v) (f.breaks.map Bk.v) (f.watches.map Wt.v) (a.map Prc.v) (b.map Prc.v) (vrows (a.map varsP)) (iv (a.map fun q => (Stm.counts q.body : Int))) (vrows (b.map varsP)) (iv (b.map fun q => (Stm.counts q.body : Int))) (B f.pairs[i].procA) (B f.pairs[i].procB) (B f.pairs[i].varA) (B f.pairs[i].varB) =
      some ⟨.ret (.int .i64 (if (l.drop k).any (fun q => decide (q.procA = f.pairs[i].procA) || decide (q.procB = f.pairs[i].procB)) then 90 else 0)), [judgeB f a b], none⟩ := by
    intro l hl
    refine down ?_ fun k hk ih => ?_
    · rw [decl_judge_pair.L1_1_1_0_1_0_eq]; simp [judgeB]
    · simp only [Int.natCast_add, Int.natCast_one] at ih
      rw [decl_judge_pair.L1_1_1_0_1_0_eq, List.drop_eq_getElem_cons hk, List.any_cons]
      by_cases c1 : l[k].procA = f.pairs[i].procA
      · simp (disch := omega) [hk, c1, judgeB]
      · by_cases c2 : l[k].procB = f.pairs[i].procB
        · simp (disch := omega) [hk, c1, c2, judgeB]
        · simp (disch := omega) [hk, c1, c2, wrap_in, ih]
  have k0 := key (f.pairs.take i) (by rw [List.length_take]; omega) 0 (Nat.zero_le _)
  have hlt : (f.pairs.take i).length = i := by rw [List.length_take]; omega
  simp only [Int.natCast_zero, List.drop_zero, hlt, List.map_take] at k0
  simp only [show ofS 0 a b = some a from rfl, show ofS 1 a b = some b from rfl] at p1 p2
  unfold judgeB at p1 p2 k0 ⊢
  rw [decl_judge_pair.eq]
  unfold pairE
  by_cases c1 : procQ f.pairs[i].procA a = none
  · simp [hi, p1, c1, procI_neg.2 c1]
  · have d1 : ¬ procI f.pairs[i].procA a 0 < 0 := fun h => c1 (procI_neg.1 h)
    by_cases c2 : procQ f.pairs[i].procB b = none
    · simp [hi, p1, p2, c1, d1, c2, procI_neg.2 c2]
    · have d2 : ¬ procI f.pairs[i].procB b 0 < 0 := fun h => c2 (procI_neg.1 h)
      simp [hi, p1, p2, c1, d1, c2, d2, k0]
      simp [Nat.min_eq_left (Nat.le_of_lt hi), k0, Nat.le_of_lt hi]
end
end Go.Proofs.YtmhnmelaodhemaaGreatDoor
namespace Go.Proofs.YtmhnmelaodhemaaGreatDoor
open Go Go.Proofs.Ab Go.Proofs.Px
set_option linter.unusedVariables false
set_option linter.unusedSimpArgs false
set_option linter.unusedSectionVars false
set_option maxRecDepth 100000
structure SmallF (f : Fl) : Prop where
  pairs : f.pairs.length ≤ 1000000
  sames : f.sames.length ≤ 1000000
  keeps : f.keeps.length ≤ 1000000
  breaks : f.breaks.length ≤ 1000000
  watches : f.watches.length ≤ 1000000
  whn : ∀ x ∈ f.breaks, x.whn.length ≤ 1000000
  mark : ∀ x ∈ f.breaks, (Lit.int .i64 x.mark).wf = true
def toldE (t : Int × Int × Int) : Option Res := some ⟨.ret (.tup [.agg [.int .i64 t.1, .int .i64 t.2.1], .int .i64 t.2.2]), [], none⟩
section
variable (f : Fl) (a b : List Prc) (ha : Smalls a) (hb : Smalls b) (hf : SmallF f)
include ha hb hf
end
end Go.Proofs.YtmhnmelaodhemaaGreatDoor
namespace Go.Proofs.YtmhnmelaodhemaaGreatDoor
open Go Go.Proofs.Ab
set_option maxRecDepth 100000
set_option linter.unusedVariables false
namespace decl_judge_same
noncomputable abbrev e (p : List Nat) := ev Sp (den Sp) id Tryz.f93.ntmps (cAt (bodyOf Tryz.f93) p)
noncomputable abbrev cn (n0 : List Nat) := canon Sp id n0
noncomputable abbrev K : K := kFin Sp (den Sp) Tryz.f93 1
noncomputable def L1_1_1_1_0_1_0 (b0 : Bool) (l1 : List (List V)) (i2 i3 : Int) (l4 l5 l6 l7 l8 l9 l10 l11 l12 l13 l14 : List (List V)) (s15 s16 s17 s18 : ByteArray) : Option Res := LP (e [1, 1, 1, 1, 0, 1, 0, 0]) (cn [0, 1005]) (kBlk 0 (kSeq (e [1, 1, 1, 1, 1]) (K))) ([(0, (V.ref 0 0)), (5, (V.ref 1005 0)), (6, (V.bool b0)), (37, (V.sl .no T_api_Pair l1)), (38, (V.int .i64 i2)), (39, (V.int .i64 i3))], ⟨[(0, (Blk.cells T_decl_judge [(V.sl .no T_api_Pair l4), (V.sl .no T_api_Pair l5), (V.sl .no T_decl_Keep l6), (V.sl .no T_decl_Break l7), (V.sl .no T_decl_Watch l8), (V.sl .no T_api_Proc l9), (V.sl .no T_api_Proc l10), (V.sl .no T_L_api_Var l11), (V.sl .no T_int l12), (V.sl .no T_L_api_Var l13), (V.sl .no T_int l14)] false)), (1005, (Blk.cells T_api_Pair [(V.str s15), (V.str s16), (V.str s17), (V.str s18)] false))], [], [], [], none⟩)
noncomputable def J1_1_1_1_0_1_0_0_1_1_1 (l0 : List (List V)) (i1 i2 : Int) (l3 l4 l5 l6 l7 l8 l9 l10 l11 l12 l13 : List (List V)) (s14 s15 s16 s17 s18 s19 s20 s21 : ByteArray) : Option Res := joinAt Sp (den Sp) id Tryz.f93.ntmps (cAt (bodyOf Tryz.f93) [1, 1, 1, 1, 0, 1, 0, 0, 1, 1, 1]) (kLp (e [1, 1, 1, 1, 0, 1, 0, 0]) (cn [0, 1005]) (kBlk 0 (kSeq (e [1, 1, 1, 1, 1]) (K)))) ([(0, (V.ref 0 0)), (5, (V.ref 1005 0)), (6, (V.bool true)), (37, (V.sl .no T_api_Pair l0)), (38, (V.int .i64 i1)), (39, (V.int .i64 i2))], ⟨[(0, (Blk.cells T_decl_judge [(V.sl .no T_api_Pair l3), (V.sl .no T_api_Pair l4), (V.sl .no T_decl_Keep l5), (V.sl .no T_decl_Break l6), (V.sl .no T_decl_Watch l7), (V.sl .no T_api_Proc l8), (V.sl .no T_api_Proc l9), (V.sl .no T_L_api_Var l10), (V.sl .no T_int l11), (V.sl .no T_L_api_Var l12), (V.sl .no T_int l13)] false)), (1005, (Blk.cells T_api_Pair [(V.str s14), (V.str s15), (V.str s16), (V.str s17)] false)), (1008, (Blk.cells T_api_Pair [(V.str s18), (V.str s19), (V.str s20), (V.str s21)] false))], [], [], [], none⟩)
noncomputable def J1_1_1_1_0_1_0_0_1_1_1v1 (b0 : Bool) (l1 : List (List V)) (i2 i3 : Int) (l4 l5 l6 l7 l8 l9 l10 l11 l12 l13 l14 : List (List V)) (s15 s16 s17 s18 s19 s20 s21 s22 : ByteArray) : Option Res := joinAt Sp (den Sp) id Tryz.f93.ntmps (cAt (bodyOf Tryz.f93) [1, 1, 1, 1, 0, 1, 0, 0, 1, 1, 1]) (kLp (e [1, 1, 1, 1, 0, 1, 0, 0]) (cn [0, 1005]) (kBlk 0 (kSeq (e [1, 1, 1, 1, 1]) (K)))) ([(0, (V.ref 0 0)), (5, (V.ref 1005 0)), (6, (V.bool b0)), (37, (V.sl .no T_api_Pair l1)), (38, (V.int .i64 i2)), (39, (V.int .i64 i3))], ⟨[(0, (Blk.cells T_decl_judge [(V.sl .no T_api_Pair l4), (V.sl .no T_api_Pair l5), (V.sl .no T_decl_Keep l6), (V.sl .no T_decl_Break l7), (V.sl .no T_decl_Watch l8), (V.sl .no T_api_Proc l9), (V.sl .no T_api_Proc l10), (V.sl .no T_L_api_Var l11), (V.sl .no T_int l12), (V.sl .no T_L_api_Var l13), (V.sl .no T_int l14)] false)), (1005, (Blk.cells T_api_Pair [(V.str s15), (V.str s16), (V.str s17), (V.str s18)] false)), (1008, (Blk.cells T_api_Pair [(V.str s19), (V.str s20), (V.str s21), (V.str s22)] false))], [], [], [], none⟩)
noncomputable def J1_1_1_1_1_1_1_1_0_0_1_1_1_0_0 (b0 : Bool) (l1 : List (List V)) (i2 i3 : Int) (l4 l5 l6 l7 l8 l9 l10 l11 l12 l13 l14 : List (List V)) (s15 s16 s17 s18 s19 : ByteArray) (i20 i21 i22 i23 : Int) (s24 : ByteArray) (i25 i26 i27 i28 : Int) : Option Res := joinAt Sp (den Sp) id Tryz.f93.ntmps (cAt (bodyOf Tryz.f93) [1, 1, 1, 1, 1, 1, 1, 1, 0, 0, 1, 1, 1, 0, 0]) (kSeq (e [1, 1, 1, 1, 1, 1, 1, 1, 0, 0, 1, 1, 1, 0, 1]) (kBlk 2 (kSeq (e [1, 1, 1, 1, 1, 1, 1, 1, 1]) (K)))) ([(0, (V.ref 0 0)), (5, (V.ref 1005 0)), (6, (V.bool b0)), (37, (V.sl .no T_api_Pair l1)), (38, (V.int .i64 i2)), (39, (V.int .i64 i3))], ⟨[(0, (Blk.cells T_decl_judge [(V.sl .no T_api_Pair l4), (V.sl .no T_api_Pair l5), (V.sl .no T_decl_Keep l6), (V.sl .no T_decl_Break l7), (V.sl .no T_decl_Watch l8), (V.sl .no T_api_Proc l9), (V.sl .no T_api_Proc l10), (V.sl .no T_L_api_Var l11), (V.sl .no T_int l12), (V.sl .no T_L_api_Var l13), (V.sl .no T_int l14)] false)), (1005, (Blk.cells T_api_Pair [(V.str s15), (V.str s16), (V.str s17), (V.str s18)] false)), (1009, (Blk.cells T_api_Var [(V.str s19), (V.int .i64 i20), (V.int .i64 i21), (V.int .i64 i22), (V.int .i64 i23)] false)), (1011, (Blk.cells T_api_Var [(V.str s24), (V.int .i64 i25), (V.int .i64 i26), (V.int .i64 i27), (V.int .i64 i28)] false))], [], [], [], none⟩)
noncomputable def J1_1_1_1_1_1_1_1_1_0 (b0 : Bool) (l1 : List (List V)) (i2 i3 : Int) (l4 l5 l6 l7 l8 l9 l10 l11 l12 l13 l14 : List (List V)) (s15 s16 s17 s18 s19 : ByteArray) (i20 i21 i22 i23 : Int) (s24 : ByteArray) (i25 i26 i27 i28 : Int) : Option Res := joinAt Sp (den Sp) id Tryz.f93.ntmps (cAt (bodyOf Tryz.f93) [1, 1, 1, 1, 1, 1, 1, 1, 1, 0]) (kSeq (e [1, 1, 1, 1, 1, 1, 1, 1, 1, 1]) (K)) ([(0, (V.ref 0 0)), (5, (V.ref 1005 0)), (6, (V.bool b0)), (37, (V.sl .no T_api_Pair l1)), (38, (V.int .i64 i2)), (39, (V.int .i64 i3))], ⟨[(0, (Blk.cells T_decl_judge [(V.sl .no T_api_Pair l4), (V.sl .no T_api_Pair l5), (V.sl .no T_decl_Keep l6), (V.sl .no T_decl_Break l7), (V.sl .no T_decl_Watch l8), (V.sl .no T_api_Proc l9), (V.sl .no T_api_Proc l10), (V.sl .no T_L_api_Var l11), (V.sl .no T_int l12), (V.sl .no T_L_api_Var l13), (V.sl .no T_int l14)] false)), (1005, (Blk.cells T_api_Pair [(V.str s15), (V.str s16), (V.str s17), (V.str s18)] false)), (1009, (Blk.cells T_api_Var [(V.str s19), (V.int .i64 i20), (V.int .i64 i21), (V.int .i64 i22), (V.int .i64 i23)] false)), (1011, (Blk.cells T_api_Var [(V.str s24), (V.int .i64 i25), (V.int .i64 i26), (V.int .i64 i27), (V.int .i64 i28)] false))], [], [], [], none⟩)
theorem L1_1_1_1_0_1_0_eq (b0 : Bool) (l1 : List (List V)) (i2 i3 : Int) (l4 l5 l6 l7 l8 l9 l10 l11 l12 l13 l14 : List (List V)) (s15 s16 s17 s18 : ByteArray) : L1_1_1_1_0_1_0 b0 l1 i2 i3 l4 l5 l6 l7 l8 l9 l10 l11 l12 l13 l14 s15 s16 s17 s18 =
    (bif (decide (i3 < i2)) then (if (((0 : Int) ≤ i3) ∧ (i3 < (l1.length : Int))) then (V.asStr (List.getD (List.getD l1 (Int.toNat i3) []) 0 V.undef) (fun s72 => (V.asStr (List.getD (List.getD l1 (Int.toNat i3) []) 1 V.undef) (fun s73 => (V.asStr (List.getD (List.getD l1 (Int.toNat i3) []) 2 V.undef) (fun s74 => (V.asStr (List.getD (List.getD l1 (Int.toNat i3) []) 3 V.undef) (fun s75 => (bif b0 then (J1_1_1_1_0_1_0_0_1_1_1 l1 i2 i3 l4 l5 l6 l7 l8 l9 l10 l11 l12 l13 l14 s15 s16 s17 s18 s72 s73 s74 s75) else (bif (decide (s72 = s15)) then (J1_1_1_1_0_1_0_0_1_1_1v1 (decide (s73 = s16)) l1 i2 i3 l4 l5 l6 l7 l8 l9 l10 l11 l12 l13 l14 s15 s16 s17 s18 s72 s73 s74 s75) else (J1_1_1_1_0_1_0_0_1_1_1v1 false l1 i2 i3 l4 l5 l6 l7 l8 l9 l10 l11 l12 l13 l14 s15 s16 s17 s18 s72 s73 s74 s75))))))))))) else none) else (bif (!b0) then (some ⟨(Out.ret (V.int .i64 (90 : Int))), [(Blk.cells T_decl_judge [(V.sl .no T_api_Pair l4), (V.sl .no T_api_Pair l5), (V.sl .no T_decl_Keep l6), (V.sl .no T_decl_Break l7), (V.sl .no T_decl_Watch l8), (V.sl .no T_api_Proc l9), (V.sl .no T_api_Proc l10), (V.sl .no T_L_api_Var l11), (V.sl .no T_int l12), (V.sl .no T_L_api_Var l13), (V.sl .no T_int l14)] false)], none⟩) else ((den Sp decl_judge_variable.id [(V.ref 0 0), (V.int .i64 (0 : Int)), (V.str s15), (V.str s17)] [(Blk.cells T_decl_judge [(V.sl .no T_api_Pair l4), (V.sl .no T_api_Pair l5), (V.sl .no T_decl_Keep l6), (V.sl .no T_decl_Break l7), (V.sl .no T_decl_Watch l8), (V.sl .no T_api_Proc l9), (V.sl .no T_api_Proc l10), (V.sl .no T_L_api_Var l11), (V.sl .no T_int l12), (V.sl .no T_L_api_Var l13), (V.sl .no T_int l14)] false)] none)).bind (fun r73 => (Blk.asCells (List.getD (Res.bl r73) 0 (Blk.cells T_n0 [] true)) T_decl_judge 11 (fun rd74 => (V.asSl (rd74 0) T_api_Pair (fun es75 => (V.asSl (rd74 1) T_api_Pair (fun es76 => (V.asSl (rd74 2) T_decl_Keep (fun es77 => (V.asSl (rd74 3) T_decl_Break (fun es78 => (V.asSl (rd74 4) T_decl_Watch (fun es79 => (V.asSl (rd74 5) T_api_Proc (fun es80 => (V.asSl (rd74 6) T_api_Proc (fun es81 => (V.asSl (rd74 7) T_L_api_Var (fun es82 => (V.asSl (rd74 8) T_int (fun es83 => (V.asSl (rd74 9) T_L_api_Var (fun es84 => (V.asSl (rd74 10) T_int (fun es85 => (Res.onRet r73 (fun v86 => (V.asTup v86 2 (fun rd87 => (V.asAgg (rd87 0) 5 (fun rd88 => (V.asStr (rd88 0) (fun s89 => (V.asInt (rd88 1) .i64 (fun n90 => (V.asInt (rd88 2) .i64 (fun n91 => (V.asInt (rd88 3) .i64 (fun n92 => (V.asInt (rd88 4) .i64 (fun n93 => (V.asBool (rd87 1) (fun b94 => ((den Sp decl_judge_variable.id [(V.ref 0 0), (V.int .i64 (1 : Int)), (V.str s16), (V.str s18)] [(Blk.cells T_decl_judge [(V.sl .no T_api_Pair es75), (V.sl .no T_api_Pair es76), (V.sl .no T_decl_Keep es77), (V.sl .no T_decl_Break es78), (V.sl .no T_decl_Watch es79), (V.sl .no T_api_Proc es80), (V.sl .no T_api_Proc es81), (V.sl .no T_L_api_Var es82), (V.sl .no T_int es83), (V.sl .no T_L_api_Var es84), (V.sl .no T_int es85)] false)] none)).bind (fun r96 => (Blk.asCells (List.getD (Res.bl r96) 0 (Blk.cells T_n0 [] true)) T_decl_judge 11 (fun rd97 => (V.asSl (rd97 0) T_api_Pair (fun es98 => (V.asSl (rd97 1) T_api_Pair (fun es99 => (V.asSl (rd97 2) T_decl_Keep (fun es100 => (V.asSl (rd97 3) T_decl_Break (fun es101 => (V.asSl (rd97 4) T_decl_Watch (fun es102 => (V.asSl (rd97 5) T_api_Proc (fun es103 => (V.asSl (rd97 6) T_api_Proc (fun es104 => (V.asSl (rd97 7) T_L_api_Var (fun es105 => (V.asSl (rd97 8) T_int (fun es106 => (V.asSl (rd97 9) T_L_api_Var (fun es107 => (V.asSl (rd97 10) T_int (fun es108 => (Res.onRet r96 (fun v109 => (V.asTup v109 2 (fun rd110 => (V.asAgg (rd110 0) 5 (fun rd111 => (V.asStr (rd111 0) (fun s112 => (V.asInt (rd111 1) .i64 (fun n113 => (V.asInt (rd111 2) .i64 (fun n114 => (V.asInt (rd111 3) .i64 (fun n115 => (V.asInt (rd111 4) .i64 (fun n116 => (V.asBool (rd110 1) (fun b117 => (bif (!b94) then (some ⟨(Out.ret (V.int .i64 (40 : Int))), [(Blk.cells T_decl_judge [(V.sl .no T_api_Pair es98), (V.sl .no T_api_Pair es99), (V.sl .no T_decl_Keep es100), (V.sl .no T_decl_Break es101), (V.sl .no T_decl_Watch es102), (V.sl .no T_api_Proc es103), (V.sl .no T_api_Proc es104), (V.sl .no T_L_api_Var es105), (V.sl .no T_int es106), (V.sl .no T_L_api_Var es107), (V.sl .no T_int es108)] false)], none⟩) else (bif (!b117) then (some ⟨(Out.ret (V.int .i64 (40 : Int))), [(Blk.cells T_decl_judge [(V.sl .no T_api_Pair es98), (V.sl .no T_api_Pair es99), (V.sl .no T_decl_Keep es100), (V.sl .no T_decl_Break es101), (V.sl .no T_decl_Watch es102), (V.sl .no T_api_Proc es103), (V.sl .no T_api_Proc es104), (V.sl .no T_L_api_Var es105), (V.sl .no T_int es106), (V.sl .no T_L_api_Var es107), (V.sl .no T_int es108)] false)], none⟩) else (bif (n90 != n113) then (J1_1_1_1_1_1_1_1_0_0_1_1_1_0_0 b0 l1 i2 i3 es98 es99 es100 es101 es102 es103 es104 es105 es106 es107 es108 s15 s16 s17 s18 s89 n90 n91 n92 n93 s112 n113 n114 n115 n116) else (bif (n91 != n114) then (J1_1_1_1_1_1_1_1_0_0_1_1_1_0_0 b0 l1 i2 i3 es98 es99 es100 es101 es102 es103 es104 es105 es106 es107 es108 s15 s16 s17 s18 s89 n90 n91 n92 n93 s112 n113 n114 n115 n116) else (J1_1_1_1_1_1_1_1_1_0 b0 l1 i2 i3 es98 es99 es100 es101 es102 es103 es104 es105 es106 es107 es108 s15 s16 s17 s18 s89 n90 n91 n92 n93 s112 n113 n114 n115 n116))))))))))))))))))))))))))))))))))))))))))))))))))))))))))))))))))))))))))))))))))))))))))))) := (LP_eq ..).trans (by kernel_rfl)
theorem J1_1_1_1_0_1_0_0_1_1_1_eq (l0 : List (List V)) (i1 i2 : Int) (l3 l4 l5 l6 l7 l8 l9 l10 l11 l12 l13 : List (List V)) (s14 s15 s16 s17 s18 s19 s20 s21 : ByteArray) : J1_1_1_1_0_1_0_0_1_1_1 l0 i1 i2 l3 l4 l5 l6 l7 l8 l9 l10 l11 l12 l13 s14 s15 s16 s17 s18 s19 s20 s21 =
    (L1_1_1_1_0_1_0 true l0 i1 (IntKind.wrap .i64 (i2 + (1 : Int))) l3 l4 l5 l6 l7 l8 l9 l10 l11 l12 l13 s14 s15 s16 s17) := (joinAt_eq ..).trans (by kernel_rfl)
theorem J1_1_1_1_0_1_0_0_1_1_1v1_eq (b0 : Bool) (l1 : List (List V)) (i2 i3 : Int) (l4 l5 l6 l7 l8 l9 l10 l11 l12 l13 l14 : List (List V)) (s15 s16 s17 s18 s19 s20 s21 s22 : ByteArray) : J1_1_1_1_0_1_0_0_1_1_1v1 b0 l1 i2 i3 l4 l5 l6 l7 l8 l9 l10 l11 l12 l13 l14 s15 s16 s17 s18 s19 s20 s21 s22 =
    (L1_1_1_1_0_1_0 b0 l1 i2 (IntKind.wrap .i64 (i3 + (1 : Int))) l4 l5 l6 l7 l8 l9 l10 l11 l12 l13 l14 s15 s16 s17 s18) := (joinAt_eq ..).trans (by kernel_rfl)
theorem J1_1_1_1_1_1_1_1_0_0_1_1_1_0_0_eq (b0 : Bool) (l1 : List (List V)) (i2 i3 : Int) (l4 l5 l6 l7 l8 l9 l10 l11 l12 l13 l14 : List (List V)) (s15 s16 s17 s18 s19 : ByteArray) (i20 i21 i22 i23 : Int) (s24 : ByteArray) (i25 i26 i27 i28 : Int) : J1_1_1_1_1_1_1_1_0_0_1_1_1_0_0 b0 l1 i2 i3 l4 l5 l6 l7 l8 l9 l10 l11 l12 l13 l14 s15 s16 s17 s18 s19 i20 i21 i22 i23 s24 i25 i26 i27 i28 =
    (some ⟨(Out.ret (V.int .i64 (41 : Int))), [(Blk.cells T_decl_judge [(V.sl .no T_api_Pair l4), (V.sl .no T_api_Pair l5), (V.sl .no T_decl_Keep l6), (V.sl .no T_decl_Break l7), (V.sl .no T_decl_Watch l8), (V.sl .no T_api_Proc l9), (V.sl .no T_api_Proc l10), (V.sl .no T_L_api_Var l11), (V.sl .no T_int l12), (V.sl .no T_L_api_Var l13), (V.sl .no T_int l14)] false)], none⟩) := (joinAt_eq ..).trans (by kernel_rfl)
theorem J1_1_1_1_1_1_1_1_1_0_eq (b0 : Bool) (l1 : List (List V)) (i2 i3 : Int) (l4 l5 l6 l7 l8 l9 l10 l11 l12 l13 l14 : List (List V)) (s15 s16 s17 s18 s19 : ByteArray) (i20 i21 i22 i23 : Int) (s24 : ByteArray) (i25 i26 i27 i28 : Int) : J1_1_1_1_1_1_1_1_1_0 b0 l1 i2 i3 l4 l5 l6 l7 l8 l9 l10 l11 l12 l13 l14 s15 s16 s17 s18 s19 i20 i21 i22 i23 s24 i25 i26 i27 i28 =
    (some ⟨(Out.ret (V.int .i64 (0 : Int))), [(Blk.cells T_decl_judge [(V.sl .no T_api_Pair l4), (V.sl .no T_api_Pair l5), (V.sl .no T_decl_Keep l6), (V.sl .no T_decl_Break l7), (V.sl .no T_decl_Watch l8), (V.sl .no T_api_Proc l9), (V.sl .no T_api_Proc l10), (V.sl .no T_L_api_Var l11), (V.sl .no T_int l12), (V.sl .no T_L_api_Var l13), (V.sl .no T_int l14)] false)], none⟩) := (joinAt_eq ..).trans (by kernel_rfl)
theorem eq (m0_0 m0_1 m0_2 m0_3 m0_4 m0_5 m0_6 m0_7 m0_8 m0_9 m0_10 : List (List V)) (a1 : Int) : den Sp id [(V.ref 0 0), (V.int .i64 a1)] [(Blk.cells T_decl_judge [(V.sl .no T_api_Pair m0_0), (V.sl .no T_api_Pair m0_1), (V.sl .no T_decl_Keep m0_2), (V.sl .no T_decl_Break m0_3), (V.sl .no T_decl_Watch m0_4), (V.sl .no T_api_Proc m0_5), (V.sl .no T_api_Proc m0_6), (V.sl .no T_L_api_Var m0_7), (V.sl .no T_int m0_8), (V.sl .no T_L_api_Var m0_9), (V.sl .no T_int m0_10)] false)] none =
    (if (((0 : Int) ≤ a1) ∧ (a1 < (m0_1.length : Int))) then (V.asStr (List.getD (List.getD m0_1 (Int.toNat a1) []) 0 V.undef) (fun s14 => (V.asStr (List.getD (List.getD m0_1 (Int.toNat a1) []) 1 V.undef) (fun s15 => (V.asStr (List.getD (List.getD m0_1 (Int.toNat a1) []) 2 V.undef) (fun s16 => (V.asStr (List.getD (List.getD m0_1 (Int.toNat a1) []) 3 V.undef) (fun s17 => ((den Sp decl_judge_proc.id [(V.ref 0 0), (V.int .i64 (0 : Int)), (V.str s14)] [(Blk.cells T_decl_judge [(V.sl .no T_api_Pair m0_0), (V.sl .no T_api_Pair m0_1), (V.sl .no T_decl_Keep m0_2), (V.sl .no T_decl_Break m0_3), (V.sl .no T_decl_Watch m0_4), (V.sl .no T_api_Proc m0_5), (V.sl .no T_api_Proc m0_6), (V.sl .no T_L_api_Var m0_7), (V.sl .no T_int m0_8), (V.sl .no T_L_api_Var m0_9), (V.sl .no T_int m0_10)] false)] none)).bind (fun r19 => (Blk.asCells (List.getD (Res.bl r19) 0 (Blk.cells T_n0 [] true)) T_decl_judge 11 (fun rd20 => (V.asSl (rd20 0) T_api_Pair (fun es21 => (V.asSl (rd20 1) T_api_Pair (fun es22 => (V.asSl (rd20 2) T_decl_Keep (fun es23 => (V.asSl (rd20 3) T_decl_Break (fun es24 => (V.asSl (rd20 4) T_decl_Watch (fun es25 => (V.asSl (rd20 5) T_api_Proc (fun es26 => (V.asSl (rd20 6) T_api_Proc (fun es27 => (V.asSl (rd20 7) T_L_api_Var (fun es28 => (V.asSl (rd20 8) T_int (fun es29 => (V.asSl (rd20 9) T_L_api_Var (fun es30 => (V.asSl (rd20 10) T_int (fun es31 => (Res.onRet r19 (fun v32 => (V.asInt v32 .i64 (fun n33 => (bif (decide (n33 < (0 : Int))) then (some ⟨(Out.ret (V.int .i64 (40 : Int))), [(Blk.cells T_decl_judge [(V.sl .no T_api_Pair es21), (V.sl .no T_api_Pair es22), (V.sl .no T_decl_Keep es23), (V.sl .no T_decl_Break es24), (V.sl .no T_decl_Watch es25), (V.sl .no T_api_Proc es26), (V.sl .no T_api_Proc es27), (V.sl .no T_L_api_Var es28), (V.sl .no T_int es29), (V.sl .no T_L_api_Var es30), (V.sl .no T_int es31)] false)], none⟩) else ((den Sp decl_judge_proc.id [(V.ref 0 0), (V.int .i64 (1 : Int)), (V.str s15)] [(Blk.cells T_decl_judge [(V.sl .no T_api_Pair es21), (V.sl .no T_api_Pair es22), (V.sl .no T_decl_Keep es23), (V.sl .no T_decl_Break es24), (V.sl .no T_decl_Watch es25), (V.sl .no T_api_Proc es26), (V.sl .no T_api_Proc es27), (V.sl .no T_L_api_Var es28), (V.sl .no T_int es29), (V.sl .no T_L_api_Var es30), (V.sl .no T_int es31)] false)] none)).bind (fun r34 => (Blk.asCells (List.getD (Res.bl r34) 0 (Blk.cells T_n0 [] true)) T_decl_judge 11 (fun rd35 => (V.asSl (rd35 0) T_api_Pair (fun es36 => (V.asSl (rd35 1) T_api_Pair (fun es37 => (V.asSl (rd35 2) T_decl_Keep (fun es38 => (V.asSl (rd35 3) T_decl_Break (fun es39 => (V.asSl (rd35 4) T_decl_Watch (fun es40 => (V.asSl (rd35 5) T_api_Proc (fun es41 => (V.asSl (rd35 6) T_api_Proc (fun es42 => (V.asSl (rd35 7) T_L_api_Var (fun es43 => (V.asSl (rd35 8) T_int (fun es44 => (V.asSl (rd35 9) T_L_api_Var (fun es45 => (V.asSl (rd35 10) T_int (fun es46 => (Res.onRet r34 (fun v47 => (V.asInt v47 .i64 (fun n48 => (bif (decide (n48 < (0 : Int))) then (some ⟨(Out.ret (V.int .i64 (40 : Int))), [(Blk.cells T_decl_judge [(V.sl .no T_api_Pair es36), (V.sl .no T_api_Pair es37), (V.sl .no T_decl_Keep es38), (V.sl .no T_decl_Break es39), (V.sl .no T_decl_Watch es40), (V.sl .no T_api_Proc es41), (V.sl .no T_api_Proc es42), (V.sl .no T_L_api_Var es43), (V.sl .no T_int es44), (V.sl .no T_L_api_Var es45), (V.sl .no T_int es46)] false)], none⟩) else (L1_1_1_1_0_1_0 false es36 (es36.length : Int) (0 : Int) es36 es37 es38 es39 es40 es41 es42 es43 es44 es45 es46 s14 s15 s16 s17))))))))))))))))))))))))))))))))))))))))))))))))))))))))))))))))))))) else none) := (den_eq ..).trans (by kernel_rfl)
end decl_judge_same
namespace decl_judge_item
noncomputable abbrev e (p : List Nat) := ev Sp (den Sp) id Tryz.f49.ntmps (cAt (bodyOf Tryz.f49) p)
noncomputable abbrev cn (n0 : List Nat) := canon Sp id n0
noncomputable abbrev K : K := kFin Sp (den Sp) Tryz.f49 1
theorem eq (m0_0 m0_1 m0_2 m0_3 m0_4 m0_5 m0_6 m0_7 m0_8 m0_9 m0_10 : List (List V)) (a1 a2 : Int) : den Sp id [(V.ref 0 0), (V.int .i64 a1), (V.int .i64 a2)] [(Blk.cells T_decl_judge [(V.sl .no T_api_Pair m0_0), (V.sl .no T_api_Pair m0_1), (V.sl .no T_decl_Keep m0_2), (V.sl .no T_decl_Break m0_3), (V.sl .no T_decl_Watch m0_4), (V.sl .no T_api_Proc m0_5), (V.sl .no T_api_Proc m0_6), (V.sl .no T_L_api_Var m0_7), (V.sl .no T_int m0_8), (V.sl .no T_L_api_Var m0_9), (V.sl .no T_int m0_10)] false)] none =
    (bif (a1 == (1 : Int)) then ((den Sp decl_judge_pair.id [(V.ref 0 0), (V.int .i64 a2)] [(Blk.cells T_decl_judge [(V.sl .no T_api_Pair m0_0), (V.sl .no T_api_Pair m0_1), (V.sl .no T_decl_Keep m0_2), (V.sl .no T_decl_Break m0_3), (V.sl .no T_decl_Watch m0_4), (V.sl .no T_api_Proc m0_5), (V.sl .no T_api_Proc m0_6), (V.sl .no T_L_api_Var m0_7), (V.sl .no T_int m0_8), (V.sl .no T_L_api_Var m0_9), (V.sl .no T_int m0_10)] false)] none)).bind (fun r17 => (Blk.asCells (List.getD (Res.bl r17) 0 (Blk.cells T_n0 [] true)) T_decl_judge 11 (fun rd18 => (V.asSl (rd18 0) T_api_Pair (fun es19 => (V.asSl (rd18 1) T_api_Pair (fun es20 => (V.asSl (rd18 2) T_decl_Keep (fun es21 => (V.asSl (rd18 3) T_decl_Break (fun es22 => (V.asSl (rd18 4) T_decl_Watch (fun es23 => (V.asSl (rd18 5) T_api_Proc (fun es24 => (V.asSl (rd18 6) T_api_Proc (fun es25 => (V.asSl (rd18 7) T_L_api_Var (fun es26 => (V.asSl (rd18 8) T_int (fun es27 => (V.asSl (rd18 9) T_L_api_Var (fun es28 => (V.asSl (rd18 10) T_int (fun es29 => (Res.onRet r17 (fun v30 => (V.asInt v30 .i64 (fun n31 => (some ⟨(Out.ret (V.int .i64 n31)), [(Blk.cells T_decl_judge [(V.sl .no T_api_Pair es19), (V.sl .no T_api_Pair es20), (V.sl .no T_decl_Keep es21), (V.sl .no T_decl_Break es22), (V.sl .no T_decl_Watch es23), (V.sl .no T_api_Proc es24), (V.sl .no T_api_Proc es25), (V.sl .no T_L_api_Var es26), (V.sl .no T_int es27), (V.sl .no T_L_api_Var es28), (V.sl .no T_int es29)] false)], none⟩)))))))))))))))))))))))))))))) else (bif (a1 == (2 : Int)) then ((den Sp decl_judge_same.id [(V.ref 0 0), (V.int .i64 a2)] [(Blk.cells T_decl_judge [(V.sl .no T_api_Pair m0_0), (V.sl .no T_api_Pair m0_1), (V.sl .no T_decl_Keep m0_2), (V.sl .no T_decl_Break m0_3), (V.sl .no T_decl_Watch m0_4), (V.sl .no T_api_Proc m0_5), (V.sl .no T_api_Proc m0_6), (V.sl .no T_L_api_Var m0_7), (V.sl .no T_int m0_8), (V.sl .no T_L_api_Var m0_9), (V.sl .no T_int m0_10)] false)] none)).bind (fun r18 => (Blk.asCells (List.getD (Res.bl r18) 0 (Blk.cells T_n0 [] true)) T_decl_judge 11 (fun rd19 => (V.asSl (rd19 0) T_api_Pair (fun es20 => (V.asSl (rd19 1) T_api_Pair (fun es21 => (V.asSl (rd19 2) T_decl_Keep (fun es22 => (V.asSl (rd19 3) T_decl_Break (fun es23 => (V.asSl (rd19 4) T_decl_Watch (fun es24 => (V.asSl (rd19 5) T_api_Proc (fun es25 => (V.asSl (rd19 6) T_api_Proc (fun es26 => (V.asSl (rd19 7) T_L_api_Var (fun es27 => (V.asSl (rd19 8) T_int (fun es28 => (V.asSl (rd19 9) T_L_api_Var (fun es29 => (V.asSl (rd19 10) T_int (fun es30 => (Res.onRet r18 (fun v31 => (V.asInt v31 .i64 (fun n32 => (some ⟨(Out.ret (V.int .i64 n32)), [(Blk.cells T_decl_judge [(V.sl .no T_api_Pair es20), (V.sl .no T_api_Pair es21), (V.sl .no T_decl_Keep es22), (V.sl .no T_decl_Break es23), (V.sl .no T_decl_Watch es24), (V.sl .no T_api_Proc es25), (V.sl .no T_api_Proc es26), (V.sl .no T_L_api_Var es27), (V.sl .no T_int es28), (V.sl .no T_L_api_Var es29), (V.sl .no T_int es30)] false)], none⟩)))))))))))))))))))))))))))))) else (bif (a1 == (3 : Int)) then ((den Sp decl_judge_keep.id [(V.ref 0 0), (V.int .i64 a2)] [(Blk.cells T_decl_judge [(V.sl .no T_api_Pair m0_0), (V.sl .no T_api_Pair m0_1), (V.sl .no T_decl_Keep m0_2), (V.sl .no T_decl_Break m0_3), (V.sl .no T_decl_Watch m0_4), (V.sl .no T_api_Proc m0_5), (V.sl .no T_api_Proc m0_6), (V.sl .no T_L_api_Var m0_7), (V.sl .no T_int m0_8), (V.sl .no T_L_api_Var m0_9), (V.sl .no T_int m0_10)] false)] none)).bind (fun r19 => (Blk.asCells (List.getD (Res.bl r19) 0 (Blk.cells T_n0 [] true)) T_decl_judge 11 (fun rd20 => (V.asSl (rd20 0) T_api_Pair (fun es21 => (V.asSl (rd20 1) T_api_Pair (fun es22 => (V.asSl (rd20 2) T_decl_Keep (fun es23 => (V.asSl (rd20 3) T_decl_Break (fun es24 => (V.asSl (rd20 4) T_decl_Watch (fun es25 => (V.asSl (rd20 5) T_api_Proc (fun es26 => (V.asSl (rd20 6) T_api_Proc (fun es27 => (V.asSl (rd20 7) T_L_api_Var (fun es28 => (V.asSl (rd20 8) T_int (fun es29 => (V.asSl (rd20 9) T_L_api_Var (fun es30 => (V.asSl (rd20 10) T_int (fun es31 => (Res.onRet r19 (fun v32 => (V.asInt v32 .i64 (fun n33 => (some ⟨(Out.ret (V.int .i64 n33)), [(Blk.cells T_decl_judge [(V.sl .no T_api_Pair es21), (V.sl .no T_api_Pair es22), (V.sl .no T_decl_Keep es23), (V.sl .no T_decl_Break es24), (V.sl .no T_decl_Watch es25), (V.sl .no T_api_Proc es26), (V.sl .no T_api_Proc es27), (V.sl .no T_L_api_Var es28), (V.sl .no T_int es29), (V.sl .no T_L_api_Var es30), (V.sl .no T_int es31)] false)], none⟩)))))))))))))))))))))))))))))) else (bif (a1 == (4 : Int)) then ((den Sp decl_judge_stop.id [(V.ref 0 0), (V.int .i64 a2)] [(Blk.cells T_decl_judge [(V.sl .no T_api_Pair m0_0), (V.sl .no T_api_Pair m0_1), (V.sl .no T_decl_Keep m0_2), (V.sl .no T_decl_Break m0_3), (V.sl .no T_decl_Watch m0_4), (V.sl .no T_api_Proc m0_5), (V.sl .no T_api_Proc m0_6), (V.sl .no T_L_api_Var m0_7), (V.sl .no T_int m0_8), (V.sl .no T_L_api_Var m0_9), (V.sl .no T_int m0_10)] false)] none)).bind (fun r20 => (Blk.asCells (List.getD (Res.bl r20) 0 (Blk.cells T_n0 [] true)) T_decl_judge 11 (fun rd21 => (V.asSl (rd21 0) T_api_Pair (fun es22 => (V.asSl (rd21 1) T_api_Pair (fun es23 => (V.asSl (rd21 2) T_decl_Keep (fun es24 => (V.asSl (rd21 3) T_decl_Break (fun es25 => (V.asSl (rd21 4) T_decl_Watch (fun es26 => (V.asSl (rd21 5) T_api_Proc (fun es27 => (V.asSl (rd21 6) T_api_Proc (fun es28 => (V.asSl (rd21 7) T_L_api_Var (fun es29 => (V.asSl (rd21 8) T_int (fun es30 => (V.asSl (rd21 9) T_L_api_Var (fun es31 => (V.asSl (rd21 10) T_int (fun es32 => (Res.onRet r20 (fun v33 => (V.asInt v33 .i64 (fun n34 => (some ⟨(Out.ret (V.int .i64 n34)), [(Blk.cells T_decl_judge [(V.sl .no T_api_Pair es22), (V.sl .no T_api_Pair es23), (V.sl .no T_decl_Keep es24), (V.sl .no T_decl_Break es25), (V.sl .no T_decl_Watch es26), (V.sl .no T_api_Proc es27), (V.sl .no T_api_Proc es28), (V.sl .no T_L_api_Var es29), (V.sl .no T_int es30), (V.sl .no T_L_api_Var es31), (V.sl .no T_int es32)] false)], none⟩)))))))))))))))))))))))))))))) else ((den Sp decl_judge_watch.id [(V.ref 0 0), (V.int .i64 a2)] [(Blk.cells T_decl_judge [(V.sl .no T_api_Pair m0_0), (V.sl .no T_api_Pair m0_1), (V.sl .no T_decl_Keep m0_2), (V.sl .no T_decl_Break m0_3), (V.sl .no T_decl_Watch m0_4), (V.sl .no T_api_Proc m0_5), (V.sl .no T_api_Proc m0_6), (V.sl .no T_L_api_Var m0_7), (V.sl .no T_int m0_8), (V.sl .no T_L_api_Var m0_9), (V.sl .no T_int m0_10)] false)] none)).bind (fun r20 => (Blk.asCells (List.getD (Res.bl r20) 0 (Blk.cells T_n0 [] true)) T_decl_judge 11 (fun rd21 => (V.asSl (rd21 0) T_api_Pair (fun es22 => (V.asSl (rd21 1) T_api_Pair (fun es23 => (V.asSl (rd21 2) T_decl_Keep (fun es24 => (V.asSl (rd21 3) T_decl_Break (fun es25 => (V.asSl (rd21 4) T_decl_Watch (fun es26 => (V.asSl (rd21 5) T_api_Proc (fun es27 => (V.asSl (rd21 6) T_api_Proc (fun es28 => (V.asSl (rd21 7) T_L_api_Var (fun es29 => (V.asSl (rd21 8) T_int (fun es30 => (V.asSl (rd21 9) T_L_api_Var (fun es31 => (V.asSl (rd21 10) T_int (fun es32 => (Res.onRet r20 (fun v33 => (V.asInt v33 .i64 (fun n34 => (some ⟨(Out.ret (V.int .i64 n34)), [(Blk.cells T_decl_judge [(V.sl .no T_api_Pair es22), (V.sl .no T_api_Pair es23), (V.sl .no T_decl_Keep es24), (V.sl .no T_decl_Break es25), (V.sl .no T_decl_Watch es26), (V.sl .no T_api_Proc es27), (V.sl .no T_api_Proc es28), (V.sl .no T_L_api_Var es29), (V.sl .no T_int es30), (V.sl .no T_L_api_Var es31), (V.sl .no T_int es32)] false)], none⟩)))))))))))))))))))))))))))))))))) := (den_eq ..).trans (by kernel_rfl)
end decl_judge_item
namespace decl_Check
noncomputable abbrev e (p : List Nat) := ev Sp (den Sp) id Tryz.f22.ntmps (cAt (bodyOf Tryz.f22) p)
noncomputable abbrev cn (n0 : List Nat) := canon Sp id n0
noncomputable abbrev K : K := kFin Sp (den Sp) Tryz.f22 0
noncomputable def L1_1_1_0_1_0 (l0 l1 : List (List V)) (i2 i3 i4 i5 i6 : Int) (l7 l8 l9 l10 l11 l12 l13 l14 l15 l16 l17 l18 l19 l20 l21 l22 l23 l24 : List (List V)) : Option Res := LP (e [1, 1, 1, 0, 1, 0, 0]) (cn [1003, 1004, 1005, 1006, 1023]) (kBlk 2 (kSeq (e [1, 1, 1, 1]) (K))) ([(3, (V.ref 1003 0)), (6, (V.ref 1006 0)), (8, (V.ref 1023 0)), (14, V.undef), (27, (V.agg [(V.sl .no T_api_Proc l0), (V.sl .no T_api_Proc l1)])), (28, (V.int .i64 (2 : Int))), (68, (V.agg [(V.int .i64 (0 : Int)), (V.int .i64 i2), (V.int .i64 i3), (V.int .i64 i4), (V.int .i64 i5), (V.int .i64 i6)])), (69, (V.int .i64 (0 : Int))), (73, V.undef), (74, V.undef)], ⟨[(1003, (Blk.cells T_decl_File [(V.sl .no T_api_Pair l7), (V.sl .no T_api_Pair l8), (V.sl .no T_decl_Keep l9), (V.sl .no T_decl_Break l10), (V.sl .no T_decl_Watch l11)] false)), (1004, (Blk.cells T_api_Prog [(V.sl .no T_api_Proc l12)] false)), (1005, (Blk.cells T_api_Prog [(V.sl .no T_api_Proc l13)] false)), (1006, (Blk.cells T_decl_Spot [(V.int .i64 (0 : Int)), (V.int .i64 (0 : Int))] false)), (1023, (Blk.cells T_decl_judge [(V.sl .no T_api_Pair l14), (V.sl .no T_api_Pair l15), (V.sl .no T_decl_Keep l16), (V.sl .no T_decl_Break l17), (V.sl .no T_decl_Watch l18), (V.sl .no T_api_Proc l19), (V.sl .no T_api_Proc l20), (V.sl .no T_L_api_Var l21), (V.sl .no T_int l22), (V.sl .no T_L_api_Var l23), (V.sl .no T_int l24)] false))], [], [], [], none⟩)
noncomputable def L1_1_1_0_1_0_0_1_1_0_0_1_1_0 (i0 : Int) (l1 l2 : List (List V)) (i3 i4 i5 i6 i7 i8 i9 i10 : Int) (l11 l12 l13 l14 l15 l16 l17 l18 l19 l20 l21 l22 l23 l24 l25 l26 l27 l28 : List (List V)) : Option Res := LP (e [1, 1, 1, 0, 1, 0, 0, 1, 1, 0, 0, 1, 1, 0, 0]) (cn [1003, 1004, 1005, 1006, 1023]) (kBlk 4 (kBlk 3 (kSeq (e [1, 1, 1, 0, 1, 0, 0, 1, 1, 1]) (kLp (e [1, 1, 1, 0, 1, 0, 0]) (cn [1003, 1004, 1005, 1006, 1023]) (kBlk 2 (kSeq (e [1, 1, 1, 1]) (K))))))) ([(3, (V.ref 1003 0)), (6, (V.ref 1006 0)), (8, (V.ref 1023 0)), (14, (V.int .i64 i0)), (27, (V.agg [(V.sl .no T_api_Proc l1), (V.sl .no T_api_Proc l2)])), (28, (V.int .i64 (2 : Int))), (68, (V.agg [(V.int .i64 (0 : Int)), (V.int .i64 i3), (V.int .i64 i4), (V.int .i64 i5), (V.int .i64 i6), (V.int .i64 i7)])), (69, (V.int .i64 i8)), (73, (V.int .i64 i9)), (74, (V.int .i64 i10))], ⟨[(1003, (Blk.cells T_decl_File [(V.sl .no T_api_Pair l11), (V.sl .no T_api_Pair l12), (V.sl .no T_decl_Keep l13), (V.sl .no T_decl_Break l14), (V.sl .no T_decl_Watch l15)] false)), (1004, (Blk.cells T_api_Prog [(V.sl .no T_api_Proc l16)] false)), (1005, (Blk.cells T_api_Prog [(V.sl .no T_api_Proc l17)] false)), (1006, (Blk.cells T_decl_Spot [(V.int .i64 (0 : Int)), (V.int .i64 (0 : Int))] false)), (1023, (Blk.cells T_decl_judge [(V.sl .no T_api_Pair l18), (V.sl .no T_api_Pair l19), (V.sl .no T_decl_Keep l20), (V.sl .no T_decl_Break l21), (V.sl .no T_decl_Watch l22), (V.sl .no T_api_Proc l23), (V.sl .no T_api_Proc l24), (V.sl .no T_L_api_Var l25), (V.sl .no T_int l26), (V.sl .no T_L_api_Var l27), (V.sl .no T_int l28)] false))], [], [], [], none⟩)
noncomputable def L1_1_1_0_1_0v1 (i0 : Int) (l1 l2 : List (List V)) (i3 i4 i5 i6 i7 i8 i9 i10 : Int) (l11 l12 l13 l14 l15 l16 l17 l18 l19 l20 l21 l22 l23 l24 l25 l26 l27 l28 : List (List V)) : Option Res := LP (e [1, 1, 1, 0, 1, 0, 0]) (cn [1003, 1004, 1005, 1006, 1023]) (kBlk 2 (kSeq (e [1, 1, 1, 1]) (K))) ([(3, (V.ref 1003 0)), (6, (V.ref 1006 0)), (8, (V.ref 1023 0)), (14, (V.int .i64 i0)), (27, (V.agg [(V.sl .no T_api_Proc l1), (V.sl .no T_api_Proc l2)])), (28, (V.int .i64 (2 : Int))), (68, (V.agg [(V.int .i64 (0 : Int)), (V.int .i64 i3), (V.int .i64 i4), (V.int .i64 i5), (V.int .i64 i6), (V.int .i64 i7)])), (69, (V.int .i64 i8)), (73, (V.int .i64 i9)), (74, (V.int .i64 i10))], ⟨[(1003, (Blk.cells T_decl_File [(V.sl .no T_api_Pair l11), (V.sl .no T_api_Pair l12), (V.sl .no T_decl_Keep l13), (V.sl .no T_decl_Break l14), (V.sl .no T_decl_Watch l15)] false)), (1004, (Blk.cells T_api_Prog [(V.sl .no T_api_Proc l16)] false)), (1005, (Blk.cells T_api_Prog [(V.sl .no T_api_Proc l17)] false)), (1006, (Blk.cells T_decl_Spot [(V.int .i64 (0 : Int)), (V.int .i64 (0 : Int))] false)), (1023, (Blk.cells T_decl_judge [(V.sl .no T_api_Pair l18), (V.sl .no T_api_Pair l19), (V.sl .no T_decl_Keep l20), (V.sl .no T_decl_Break l21), (V.sl .no T_decl_Watch l22), (V.sl .no T_api_Proc l23), (V.sl .no T_api_Proc l24), (V.sl .no T_L_api_Var l25), (V.sl .no T_int l26), (V.sl .no T_L_api_Var l27), (V.sl .no T_int l28)] false))], [], [], [], none⟩)
theorem L1_1_1_0_1_0_eq (l0 l1 : List (List V)) (i2 i3 i4 i5 i6 : Int) (l7 l8 l9 l10 l11 l12 l13 l14 l15 l16 l17 l18 l19 l20 l21 l22 l23 l24 : List (List V)) : L1_1_1_0_1_0 l0 l1 i2 i3 i4 i5 i6 l7 l8 l9 l10 l11 l12 l13 l14 l15 l16 l17 l18 l19 l20 l21 l22 l23 l24 =
    (L1_1_1_0_1_0_0_1_1_0_0_1_1_0 (0 : Int) l0 l1 i2 i3 i4 i5 i6 (0 : Int) (0 : Int) (0 : Int) l7 l8 l9 l10 l11 l12 l13 l14 l15 l16 l17 l18 l19 l20 l21 l22 l23 l24) := (LP_eq ..).trans (by kernel_rfl)
theorem L1_1_1_0_1_0_0_1_1_0_0_1_1_0_eq (i0 : Int) (l1 l2 : List (List V)) (i3 i4 i5 i6 i7 i8 i9 i10 : Int) (l11 l12 l13 l14 l15 l16 l17 l18 l19 l20 l21 l22 l23 l24 l25 l26 l27 l28 : List (List V)) : L1_1_1_0_1_0_0_1_1_0_0_1_1_0 i0 l1 l2 i3 i4 i5 i6 i7 i8 i9 i10 l11 l12 l13 l14 l15 l16 l17 l18 l19 l20 l21 l22 l23 l24 l25 l26 l27 l28 =
    (bif (decide (i10 < i9)) then ((den Sp decl_judge_item.id [(V.ref 0 0), (V.int .i64 i0), (V.int .i64 i10)] [(Blk.cells T_decl_judge [(V.sl .no T_api_Pair l18), (V.sl .no T_api_Pair l19), (V.sl .no T_decl_Keep l20), (V.sl .no T_decl_Break l21), (V.sl .no T_decl_Watch l22), (V.sl .no T_api_Proc l23), (V.sl .no T_api_Proc l24), (V.sl .no T_L_api_Var l25), (V.sl .no T_int l26), (V.sl .no T_L_api_Var l27), (V.sl .no T_int l28)] false)] none)).bind (fun r104 => (Blk.asCells (List.getD (Res.bl r104) 0 (Blk.cells T_n0 [] true)) T_decl_judge 11 (fun rd105 => (V.asSl (rd105 0) T_api_Pair (fun es106 => (V.asSl (rd105 1) T_api_Pair (fun es107 => (V.asSl (rd105 2) T_decl_Keep (fun es108 => (V.asSl (rd105 3) T_decl_Break (fun es109 => (V.asSl (rd105 4) T_decl_Watch (fun es110 => (V.asSl (rd105 5) T_api_Proc (fun es111 => (V.asSl (rd105 6) T_api_Proc (fun es112 => (V.asSl (rd105 7) T_L_api_Var (fun es113 => (V.asSl (rd105 8) T_int (fun es114 => (V.asSl (rd105 9) T_L_api_Var (fun es115 => (V.asSl (rd105 10) T_int (fun es116 => (Res.onRet r104 (fun v117 => (V.asInt v117 .i64 (fun n118 => (bif (n118 != (0 : Int)) then (some ⟨(Out.ret (V.tup [(V.agg [(V.int .i64 i0), (V.int .i64 i10)]), (V.int .i64 n118)])), [], none⟩) else (L1_1_1_0_1_0_0_1_1_0_0_1_1_0 i0 l1 l2 i3 i4 i5 i6 i7 i8 i9 (IntKind.wrap .i64 (i10 + (1 : Int))) l11 l12 l13 l14 l15 l16 l17 es106 es107 es108 es109 es110 es111 es112 es113 es114 es115 es116))))))))))))))))))))))))))))))) else (L1_1_1_0_1_0v1 i0 l1 l2 i3 i4 i5 i6 i7 (IntKind.wrap .i64 (i8 + (1 : Int))) i9 i10 l11 l12 l13 l14 l15 l16 l17 l18 l19 l20 l21 l22 l23 l24 l25 l26 l27 l28)) := (LP_eq ..).trans (by kernel_rfl)
theorem L1_1_1_0_1_0v1_eq (i0 : Int) (l1 l2 : List (List V)) (i3 i4 i5 i6 i7 i8 i9 i10 : Int) (l11 l12 l13 l14 l15 l16 l17 l18 l19 l20 l21 l22 l23 l24 l25 l26 l27 l28 : List (List V)) : L1_1_1_0_1_0v1 i0 l1 l2 i3 i4 i5 i6 i7 i8 i9 i10 l11 l12 l13 l14 l15 l16 l17 l18 l19 l20 l21 l22 l23 l24 l25 l26 l27 l28 =
    (bif (decide (i8 < (6 : Int))) then (if (((0 : Int) ≤ i8) ∧ (i8 < ((6 : Nat) : Int))) then (V.asInt (List.getD [(V.int .i64 (0 : Int)), (V.int .i64 i3), (V.int .i64 i4), (V.int .i64 i5), (V.int .i64 i6), (V.int .i64 i7)] (((Int.toNat i8) * 1) + 0) V.undef) .i64 (fun n134 => (L1_1_1_0_1_0_0_1_1_0_0_1_1_0 i8 l1 l2 i3 i4 i5 i6 i7 i8 n134 (0 : Int) l11 l12 l13 l14 l15 l16 l17 l18 l19 l20 l21 l22 l23 l24 l25 l26 l27 l28))) else none) else (some ⟨(Out.ret (V.tup [(V.agg [(V.int .i64 (0 : Int)), (V.int .i64 (0 : Int))]), (V.int .i64 (0 : Int))])), [], none⟩)) := (LP_eq ..).trans (by kernel_rfl)
theorem eq (a0_0 a0_1 a0_2 a0_3 a0_4 a1_0 a2_0 : List (List V)) : den Sp id [(V.agg [(V.sl .no T_api_Pair a0_0), (V.sl .no T_api_Pair a0_1), (V.sl .no T_decl_Keep a0_2), (V.sl .no T_decl_Break a0_3), (V.sl .no T_decl_Watch a0_4)]), (V.agg [(V.sl .no T_api_Proc a1_0)]), (V.agg [(V.sl .no T_api_Proc a2_0)])] [] none =
    ((den Sp check_Check.id [(V.agg [(V.sl .no T_api_Proc a1_0)])] [] none)).bind (fun r13 => (Res.onRet r13 (fun v14 => (V.asTup v14 3 (fun rd15 => (V.asAgg (rd15 0) 2 (fun rd16 => (V.asSl (rd16 0) T_L_api_Var (fun es17 => (V.asSl (rd16 1) T_int (fun es18 => (V.asAgg (rd15 1) 2 (fun rd19 => (V.asInt (rd19 0) .i64 (fun n20 => (V.asInt (rd19 1) .i64 (fun n21 => (V.asInt (rd15 2) .i64 (fun n22 => (bif (n22 != (0 : Int)) then (some ⟨(Out.ret (V.tup [(V.agg [(V.int .i64 (6 : Int)), (V.int .i64 n20)]), (V.int .i64 n22)])), [], none⟩) else ((den Sp check_Check.id [(V.agg [(V.sl .no T_api_Proc a2_0)])] [] none)).bind (fun r29 => (Res.onRet r29 (fun v30 => (V.asTup v30 3 (fun rd31 => (V.asAgg (rd31 0) 2 (fun rd32 => (V.asSl (rd32 0) T_L_api_Var (fun es33 => (V.asSl (rd32 1) T_int (fun es34 => (V.asAgg (rd31 1) 2 (fun rd35 => (V.asInt (rd35 0) .i64 (fun n36 => (V.asInt (rd35 1) .i64 (fun n37 => (V.asInt (rd31 2) .i64 (fun n38 => (bif (n38 != (0 : Int)) then (some ⟨(Out.ret (V.tup [(V.agg [(V.int .i64 (7 : Int)), (V.int .i64 n36)]), (V.int .i64 n38)])), [], none⟩) else (L1_1_1_0_1_0 a1_0 a2_0 (a0_0.length : Int) (a0_1.length : Int) (a0_2.length : Int) (a0_3.length : Int) (a0_4.length : Int) a0_0 a0_1 a0_2 a0_3 a0_4 a1_0 a2_0 a0_0 a0_1 a0_2 a0_3 a0_4 a1_0 a2_0 es17 es18 es33 es34))))))))))))))))))))))))))))))))))))))))) := (den_eq ..).trans (by kernel_rfl)
end decl_Check
end Go.Proofs.YtmhnmelaodhemaaGreatDoor
namespace Go.Proofs.YtmhnmelaodhemaaGreatDoor
open Go Go.Proofs.Ab Go.Proofs.Px
set_option linter.unusedVariables false
set_option linter.unusedSimpArgs false
set_option maxRecDepth 100000
def firstN (e : Nat → Int) : Nat → Nat → Option (Int × Int)
  | 0, _ => none
  | n + 1, k => if e k ≠ 0 then some ((k : Int), e k) else firstN e n (k + 1)
def restE (e : Nat → Nat → Int) (n : Nat → Nat) : Nat → Nat → Int × Int × Int
  | 0, _ => (0, 0, 0)
  | m + 1, c => match firstN (e c) (n c) 0 with | some r => ((c : Int), r.1, r.2) | none => restE e n m (c + 1)
def cntF (f : Fl) : Nat → Nat
  | 1 => f.pairs.length | 2 => f.sames.length | 3 => f.keeps.length | 4 => f.breaks.length | 5 => f.watches.length | _ => 0
def itemE (f : Fl) (a b : List Prc) (c i : Nat) : Int := match c with
  | 1 => (match f.pairs[i]? with | some p => pairE a b (f.pairs.take i) p | none => 0)
  | 2 => (match f.sames[i]? with | some p => sameE a b f.pairs p | none => 0)
  | 3 => (match f.keeps[i]? with | some p => keepE a b p | none => 0)
  | 4 => (match f.breaks[i]? with | some p => stopE a b p | none => 0)
  | 5 => (match f.watches[i]? with | some p => watchE a b p | none => 0)
  | _ => 0
theorem firstN_E {α : Type} (g : α → Int) (l : List α) (e : Nat → Int) (he : ∀ (k : Nat) (h : k < l.length), e k = g l[k]) : ∀ k : Nat, k ≤ l.length → firstN e (l.length - k) k = firstE g (l.drop k) (k : Int) := by
  refine down ?_ fun k hk ih => ?_
  · rw [Nat.sub_self, List.drop_length]; rfl
  · rw [show l.length - k = (l.length - (k + 1)) + 1 by omega, List.drop_eq_getElem_cons hk, firstN, firstE, he k hk, ih]
    simp
theorem firstN_P (a b : List Prc) (l : List Pai) (e : Nat → Int) (he : ∀ (k : Nat) (h : k < l.length), e k = pairE a b (l.take k) l[k]) : ∀ k : Nat, k ≤ l.length → firstN e (l.length - k) k = pairsE a b (l.take k) (l.drop k) (k : Int) := by
  refine down ?_ fun k hk ih => ?_
  · rw [Nat.sub_self, List.drop_length]; rfl
  · have e2 : l.take k ++ [l[k]] = l.take (k + 1) := (List.take_succ_eq_append_getElem hk).symm
    rw [show l.length - k = (l.length - (k + 1)) + 1 by omega, List.drop_eq_getElem_cons hk, firstN, pairsE, he k hk, ih, e2]
    simp
theorem fileE_rest (f : Fl) (a b : List Prc) : restE (itemE f a b) (cntF f) 6 0 = itemsE f a b := by
  unfold itemsE orE
  have h1 := firstN_P a b f.pairs (itemE f a b 1) (fun k h => by simp [itemE, h]) 0 (Nat.zero_le _)
  have h2 := firstN_E (sameE a b f.pairs) f.sames (itemE f a b 2) (fun k h => by simp [itemE, h]) 0 (Nat.zero_le _)
  have h3 := firstN_E (keepE a b) f.keeps (itemE f a b 3) (fun k h => by simp [itemE, h]) 0 (Nat.zero_le _)
  have h4 := firstN_E (stopE a b) f.breaks (itemE f a b 4) (fun k h => by simp [itemE, h]) 0 (Nat.zero_le _)
  have h5 := firstN_E (watchE a b) f.watches (itemE f a b 5) (fun k h => by simp [itemE, h]) 0 (Nat.zero_le _)
  simp only [Nat.sub_zero, List.drop_zero, List.take_zero, Int.natCast_zero] at h1 h2 h3 h4 h5
  have h0 : firstN (itemE f a b 0) (cntF f 0) 0 = none := rfl
  simp only [restE, h0, show cntF f 1 = f.pairs.length from rfl, show cntF f 2 = f.sames.length from rfl, show cntF f 3 = f.keeps.length from rfl, show cntF f 4 = f.breaks.length from rfl, show cntF f 5 = f.watches.length from rfl, Nat.zero_add, Nat.reduceAdd, h1, h2, h3, h4, h5]
  rfl
section
variable (f : Fl) (a b : List Prc) (ha : Smalls a) (hb : Smalls b) (hf : SmallF f)
include ha hb hf
theorem judge_same_is (i : Nat) (hi : i < f.sames.length) : den Sp decl_judge_same.id [.ref 0 0, .int .i64 (i : Int)] [judgeB f a b] none = some ⟨.ret (.int .i64 (sameE a b f.pairs f.sames[i])), [judgeB f a b], none⟩ := by
  have p1 := judge_proc_is f a b ha hb 0 f.sames[i].procA
  have p2 := judge_proc_is f a b ha hb 1 f.sames[i].procB
  have v1 := judge_variable_is f a b ha hb 0 f.sames[i].procA f.sames[i].varA
  have v2 := judge_variable_is f a b ha hb 1 f.sames[i].procB f.sames[i].varB
  simp only [show ofS 0 a b = some a from rfl, show ofS 1 a b = some b from rfl] at p1 p2 v1 v2
  have hfp := hf.pairs
  generalize hx : f.sames[i] = x at p1 p2 v1 v2 ⊢
  have key : ∀ k : Nat, k ≤ f.pairs.length → ∀ t : Bool, decl_judge_same.L1_1_1_1_0_1_0 t (f.pairs.map Pai.v) (f.pairs.length : Int) (k : Int) (f.pairs.map Pai.v) (f.sames.map Pai.v) (f.keeps.map Kp.v) (f.breaks.map Bk.v) (f.watches.map Wt.v) (a.map Prc.v) (b.map Prc.v) (vrows (a.map varsP)) (iv (a.map fun q => (Stm.counts q.body : Int))) (vrows (b.map varsP)) (iv (b.map fun q => (Stm.counts q.body : Int))) (B x.procA) (B x.procB) (B x.varA) (B x.varB) =
      some ⟨.ret (.int .i64 (if t || (f.pairs.drop k).any (fun q => decide (q.procA = x.procA) && decide (q.procB = x.procB)) then likeE (declV a x.procA x.varA) (declV b x.procB x.varB) else 90)), [judgeB f a b], none⟩ := by
    refine down (fun t => ?_) fun k hk ih t => ?_
    · unfold judgeB at v1 v2 ⊢
      rw [decl_judge_same.L1_1_1_1_0_1_0_eq]
      cases t with
      | false => simp
      | true =>
        cases h1 : declV a x.procA x.varA with
        | none => cases h2 : declV b x.procB x.varB <;> simp [v1, v2, h1, h2, varA, likeE, decl_judge_same.J1_1_1_1_0_1_0_0_1_1_1_eq, decl_judge_same.J1_1_1_1_0_1_0_0_1_1_1v1_eq, decl_judge_same.J1_1_1_1_1_1_1_1_0_0_1_1_1_0_0_eq, decl_judge_same.J1_1_1_1_1_1_1_1_1_0_eq]
        | some y =>
          cases h2 : declV b x.procB x.varB with
          | none => simp [v1, v2, h1, h2, varA, likeE, decl_judge_same.J1_1_1_1_0_1_0_0_1_1_1_eq, decl_judge_same.J1_1_1_1_0_1_0_0_1_1_1v1_eq, decl_judge_same.J1_1_1_1_1_1_1_1_0_0_1_1_1_0_0_eq, decl_judge_same.J1_1_1_1_1_1_1_1_1_0_eq]
          | some z => by_cases c1 : y.type = z.type <;> by_cases c2 : y.size = z.size <;> simp [v1, v2, h1, h2, varA, likeE, c1, c2, decl_judge_same.J1_1_1_1_0_1_0_0_1_1_1_eq, decl_judge_same.J1_1_1_1_0_1_0_0_1_1_1v1_eq, decl_judge_same.J1_1_1_1_1_1_1_1_0_0_1_1_1_0_0_eq, decl_judge_same.J1_1_1_1_1_1_1_1_1_0_eq]
    · simp only [Int.natCast_add, Int.natCast_one] at ih
      rw [decl_judge_same.L1_1_1_1_0_1_0_eq, List.drop_eq_getElem_cons hk, List.any_cons]
      cases t with
      | true => simp (disch := omega) [hk, wrap_in, ih, decl_judge_same.J1_1_1_1_0_1_0_0_1_1_1_eq]
      | false =>
        by_cases c1 : f.pairs[k].procA = x.procA
        · by_cases c2 : f.pairs[k].procB = x.procB <;> simp (disch := omega) [hk, wrap_in, ih, c1, c2, decl_judge_same.J1_1_1_1_0_1_0_0_1_1_1v1_eq]
        · simp (disch := omega) [hk, wrap_in, ih, c1, decl_judge_same.J1_1_1_1_0_1_0_0_1_1_1v1_eq]
  have k0 := key 0 (Nat.zero_le _) false
  simp only [Int.natCast_zero, List.drop_zero, Bool.false_or] at k0
  unfold judgeB at p1 p2 k0 ⊢
  rw [decl_judge_same.eq]
  unfold sameE
  by_cases c1 : procQ x.procA a = none
  · simp [hi, hx, p1, c1, procI_neg.2 c1]
  · have d1 : ¬ procI x.procA a 0 < 0 := fun h => c1 (procI_neg.1 h)
    by_cases c2 : procQ x.procB b = none
    · simp [hi, hx, p1, p2, c1, d1, c2, procI_neg.2 c2]
    · have d2 : ¬ procI x.procB b 0 < 0 := fun h => c2 (procI_neg.1 h)
      simp [hi, hx, p1, p2, c1, d1, c2, d2, k0]
theorem judge_item_is (c : Nat) (hc : c ≤ 5) (i : Nat) (hi : i < cntF f c) : den Sp decl_judge_item.id [.ref 0 0, .int .i64 (c : Int), .int .i64 (i : Int)] [judgeB f a b] none = some ⟨.ret (.int .i64 (itemE f a b c i)), [judgeB f a b], none⟩ := by
  match c, hc, hi with
  | 0, _, hi => cases hi
  | 1, _, hi =>
    have hi' : i < f.pairs.length := hi
    have h := judge_pair_is f a b ha hb i hi' hf.pairs
    unfold judgeB at h ⊢
    rw [decl_judge_item.eq]
    simp [h, itemE, hi']
  | 2, _, hi =>
    have hi' : i < f.sames.length := hi
    have h := judge_same_is f a b ha hb hf i hi'
    unfold judgeB at h ⊢
    rw [decl_judge_item.eq]
    simp [h, itemE, hi']
  | 3, _, hi =>
    have hi' : i < f.keeps.length := hi
    have h := judge_keep_is f a b ha hb i hi'
    unfold judgeB at h ⊢
    rw [decl_judge_item.eq]
    simp [h, itemE, hi']
  | 4, _, hi =>
    have hi' : i < f.breaks.length := hi
    have h := judge_stop_is f a b ha hb i hi' (hf.whn _ (List.getElem_mem hi'))
    unfold judgeB at h ⊢
    rw [decl_judge_item.eq]
    simp [h, itemE, hi']
  | 5, _, hi =>
    have hi' : i < f.watches.length := hi
    have h := judge_watch_is f a b ha hb i hi'
    unfold judgeB at h ⊢
    rw [decl_judge_item.eq]
    simp [h, itemE, hi']
theorem decl_Check_is (oka : ∀ q ∈ a, PrcOk q) (okb : ∀ q ∈ b, PrcOk q) (sa : Prc.sizes a ≤ 1000000) (sb : Prc.sizes b ≤ 1000000) :
    den Sp decl_Check.id [.agg [.sl .no T_api_Pair (f.pairs.map Pai.v), .sl .no T_api_Pair (f.sames.map Pai.v), .sl .no T_decl_Keep (f.keeps.map Kp.v), .sl .no T_decl_Break (f.breaks.map Bk.v), .sl .no T_decl_Watch (f.watches.map Wt.v)], .agg [.sl .no T_api_Proc (a.map Prc.v)], .agg [.sl .no T_api_Proc (b.map Prc.v)]] [] none =
      toldE (fileE f a b) := by
  unfold toldE
  have ca := check_Check_is a oka sa
  have cb := check_Check_is b okb sb
  have cnt : ∀ c : Nat, cntF f c ≤ 1000000 := fun c => by
    match c with
    | 0 => exact Nat.zero_le _
    | 1 => exact hf.pairs
    | 2 => exact hf.sames
    | 3 => exact hf.keeps
    | 4 => exact hf.breaks
    | 5 => exact hf.watches
    | c + 6 => exact Nat.zero_le _
  have kinds : ∀ c : Nat, c ≤ 6 → ∀ x y z : Int, decl_Check.L1_1_1_0_1_0v1 x (a.map Prc.v) (b.map Prc.v) (f.pairs.length : Int) (f.sames.length : Int) (f.keeps.length : Int) (f.breaks.length : Int) (f.watches.length : Int) (c : Int) y z (f.pairs.map Pai.v) (f.sames.map Pai.v) (f.keeps.map Kp.v) (f.breaks.map Bk.v) (f.watches.map Wt.v) (a.map Prc.v) (b.map Prc.v) (f.pairs.map Pai.v) (f.sames.map Pai.v) (f.keeps.map Kp.v) (f.breaks.map Bk.v) (f.watches.map Wt.v) (a.map Prc.v) (b.map Prc.v) (vrows (a.map varsP)) (iv (a.map fun q => (Stm.counts q.body : Int))) (vrows (b.map varsP)) (iv (b.map fun q => (Stm.counts q.body : Int))) =
      some ⟨.ret (.tup [.agg [.int .i64 (restE (itemE f a b) (cntF f) (6 - c) c).1, .int .i64 (restE (itemE f a b) (cntF f) (6 - c) c).2.1], .int .i64 (restE (itemE f a b) (cntF f) (6 - c) c).2.2]), [], none⟩ := by
    refine down (fun x y z => ?_) fun c hc ih x y z => ?_
    · rw [decl_Check.L1_1_1_0_1_0v1_eq]; simp [restE]
    · have inner : ∀ k : Nat, k ≤ cntF f c → decl_Check.L1_1_1_0_1_0_0_1_1_0_0_1_1_0 (c : Int) (a.map Prc.v) (b.map Prc.v) (f.pairs.length : Int) (f.sames.length : Int) (f.keeps.length : Int) (f.breaks.length : Int) (f.watches.length : Int) (c : Int) (cntF f c : Int) (k : Int) (f.pairs.map Pai.v) (f.sames.map Pai.v) (f.keeps.map Kp.v) (f.breaks.map Bk.v) (f.watches.map Wt.v) (a.map Prc.v) (b.map Prc.v) (f.pairs.map Pai.v) (f.sames.map Pai.v) (f.keeps.map Kp.v) (f.breaks.map Bk.v) (f.watches.map Wt.v) (a.map Prc.v) (b.map Prc.v) (vrows (a.map varsP)) (iv (a.map fun q => (Stm.counts q.body : Int))) (vrows (b.map varsP)) (iv (b.map fun q => (Stm.counts q.body : Int))) =
          (match firstN (itemE f a b c) (cntF f c - k) k with
          | some r => some ⟨.ret (.tup [.agg [.int .i64 (c : Int), .int .i64 r.1], .int .i64 r.2]), [], none⟩
          | none => some ⟨.ret (.tup [.agg [.int .i64 (restE (itemE f a b) (cntF f) (6 - (c + 1)) (c + 1)).1, .int .i64 (restE (itemE f a b) (cntF f) (6 - (c + 1)) (c + 1)).2.1], .int .i64 (restE (itemE f a b) (cntF f) (6 - (c + 1)) (c + 1)).2.2]), [], none⟩) := by
        have hcn := cnt c
        simp only [Int.natCast_add, Int.natCast_one] at ih
        refine down ?_ fun k hk ihk => ?_
        · rw [decl_Check.L1_1_1_0_1_0_0_1_1_0_0_1_1_0_eq, Nat.sub_self]
          simp (disch := omega) [firstN, wrap_in, ih]
        · have hit := judge_item_is f a b ha hb hf c (by omega) k hk
          unfold judgeB at hit
          simp only [Int.natCast_add, Int.natCast_one] at ihk
          rw [decl_Check.L1_1_1_0_1_0_0_1_1_0_0_1_1_0_eq, show cntF f c - k = (cntF f c - (k + 1)) + 1 by omega, firstN]
          by_cases c1 : itemE f a b c k = 0
          · simp (disch := omega) [hk, hit, c1, wrap_in, ihk, List.getElem?_cons_zero]
          · simp (disch := omega) [hk, hit, c1, List.getElem?_cons_zero]
      have h0 := inner 0 (Nat.zero_le _)
      have hcn : List.getD [V.int .i64 0, V.int .i64 (f.pairs.length : Int), V.int .i64 (f.sames.length : Int), V.int .i64 (f.keeps.length : Int), V.int .i64 (f.breaks.length : Int), V.int .i64 (f.watches.length : Int)] (Int.toNat (c : Int) * 1 + 0) V.undef = .int .i64 (cntF f c : Int) := by
        match c, hc with
        | 0, _ => rfl
        | 1, _ => rfl
        | 2, _ => rfl
        | 3, _ => rfl
        | 4, _ => rfl
        | 5, _ => rfl
      rw [decl_Check.L1_1_1_0_1_0v1_eq, hcn, decide_eq_true (show (c : Int) < 6 by omega), cond_true, if_pos ⟨by omega, by omega⟩, asInt_int]
      simp only [Int.natCast_zero, Nat.sub_zero] at h0
      rw [h0, show 6 - c = (6 - (c + 1)) + 1 by omega, restE]
      cases firstN (itemE f a b c) (cntF f c) 0 <;> rfl
  have k0 := kinds 0 (by omega) 0 0 0
  simp only [Int.natCast_zero, Nat.sub_zero, fileE_rest] at k0
  have k1 := (show decl_Check.L1_1_1_0_1_0 (a.map Prc.v) (b.map Prc.v) (f.pairs.length : Int) (f.sames.length : Int) (f.keeps.length : Int) (f.breaks.length : Int) (f.watches.length : Int) (f.pairs.map Pai.v) (f.sames.map Pai.v) (f.keeps.map Kp.v) (f.breaks.map Bk.v) (f.watches.map Wt.v) (a.map Prc.v) (b.map Prc.v) (f.pairs.map Pai.v) (f.sames.map Pai.v) (f.keeps.map Kp.v) (f.breaks.map Bk.v) (f.watches.map Wt.v) (a.map Prc.v) (b.map Prc.v) (vrows (a.map varsP)) (iv (a.map fun q => (Stm.counts q.body : Int))) (vrows (b.map varsP)) (iv (b.map fun q => (Stm.counts q.body : Int))) = decl_Check.L1_1_1_0_1_0v1 0 (a.map Prc.v) (b.map Prc.v) (f.pairs.length : Int) (f.sames.length : Int) (f.keeps.length : Int) (f.breaks.length : Int) (f.watches.length : Int) 0 0 0 (f.pairs.map Pai.v) (f.sames.map Pai.v) (f.keeps.map Kp.v) (f.breaks.map Bk.v) (f.watches.map Wt.v) (a.map Prc.v) (b.map Prc.v) (f.pairs.map Pai.v) (f.sames.map Pai.v) (f.keeps.map Kp.v) (f.breaks.map Bk.v) (f.watches.map Wt.v) (a.map Prc.v) (b.map Prc.v) (vrows (a.map varsP)) (iv (a.map fun q => (Stm.counts q.body : Int))) (vrows (b.map varsP)) (iv (b.map fun q => (Stm.counts q.body : Int))) from by
    rw [decl_Check.L1_1_1_0_1_0_eq, decl_Check.L1_1_1_0_1_0v1_eq]
    rfl).trans k0
  unfold checkR at ca cb
  rw [decl_Check.eq, ca]
  unfold fileE
  by_cases ea : (checkP a).2.2 = 0
  · simp only [ea, if_true]
    unfold infoV
    by_cases eb : (checkP b).2.2 = 0
    · simp only [eb, if_true] at cb
      unfold infoV at cb
      simp only [ne_eq, not_true_eq_false, if_false, eb]
      simp [cb, k1]
    · simp only [eb, if_false] at cb
      unfold infoV at cb
      simp [cb, eb]
  · simp only [ea, if_false]
    unfold infoV
    simp [ea]
end
end Go.Proofs.YtmhnmelaodhemaaGreatDoor
namespace Go.Proofs.YtmhnmelaodhemaaGreatDoor
open Go Go.Proofs.Ab
set_option maxRecDepth 100000
set_option linter.unusedVariables false
namespace ref12_Size
noncomputable abbrev e (p : List Nat) := ev Sp (den Sp) id Tryz.f27.ntmps (cAt (bodyOf Tryz.f27) p)
noncomputable abbrev cn (n0 : List Nat) := canon Sp id n0
noncomputable abbrev K : K := kFin Sp (den Sp) Tryz.f27 0
noncomputable def L1_1_0_1_0 (i0 i1 : Int) (l2 l3 l4 l5 l6 : List (List V)) : Option Res := LP (e [1, 1, 0, 1, 0, 0]) (cn [1002]) (kBlk 0 (kSeq (e [1, 1, 1]) (K))) ([(1, (V.int .i64 i0)), (2, (V.ref 1002 0)), (5, (V.int .i64 i1)), (6, (V.int .i64 (0 : Int))), (7, V.undef)], ⟨[(1002, (Blk.cells T_parallaxref12_File [(V.sl .no T_api_Pair l2), (V.sl .no T_api_Pair l3), (V.sl .no T_parallaxref12_Keep l4), (V.sl .no T_parallaxref12_Break l5), (V.sl .no T_parallaxref12_Watch l6)] false))], [], [], [], none⟩)
noncomputable def L1_1_0_1_0_0_1_0_0_1_1_0 (i0 i1 i2 i3 : Int) (l4 l5 l6 l7 l8 : List (List V)) : Option Res := LP (e [1, 1, 0, 1, 0, 0, 1, 0, 0, 1, 1, 0, 0]) (cn [1002]) (kBlk 2 (kBlk 1 (kSeq (e [1, 1, 0, 1, 0, 0, 1, 1]) (kLp (e [1, 1, 0, 1, 0, 0]) (cn [1002]) (kBlk 0 (kSeq (e [1, 1, 1]) (K))))))) ([(1, (V.int .i64 i0)), (2, (V.ref 1002 0)), (5, (V.int .i64 i1)), (6, (V.int .i64 i2)), (7, (V.int .i64 i3))], ⟨[(1002, (Blk.cells T_parallaxref12_File [(V.sl .no T_api_Pair l4), (V.sl .no T_api_Pair l5), (V.sl .no T_parallaxref12_Keep l6), (V.sl .no T_parallaxref12_Break l7), (V.sl .no T_parallaxref12_Watch l8)] false))], [], [], [], none⟩)
noncomputable def L1_1_0_1_0v1 (i0 i1 i2 i3 : Int) (l4 l5 l6 l7 l8 : List (List V)) : Option Res := LP (e [1, 1, 0, 1, 0, 0]) (cn [1002]) (kBlk 0 (kSeq (e [1, 1, 1]) (K))) ([(1, (V.int .i64 i0)), (2, (V.ref 1002 0)), (5, (V.int .i64 i1)), (6, (V.int .i64 i2)), (7, (V.int .i64 i3))], ⟨[(1002, (Blk.cells T_parallaxref12_File [(V.sl .no T_api_Pair l4), (V.sl .no T_api_Pair l5), (V.sl .no T_parallaxref12_Keep l6), (V.sl .no T_parallaxref12_Break l7), (V.sl .no T_parallaxref12_Watch l8)] false))], [], [], [], none⟩)
theorem L1_1_0_1_0_eq (i0 i1 : Int) (l2 l3 l4 l5 l6 : List (List V)) : L1_1_0_1_0 i0 i1 l2 l3 l4 l5 l6 =
    (bif (decide ((0 : Int) < (l5.length : Int))) then (bif (decide (i1 ≤ i0)) then (L1_1_0_1_0_0_1_0_0_1_1_0 i0 (IntKind.wrap .i64 (i1 + (1 : Int))) (0 : Int) (0 : Int) l2 l3 l4 l5 l6) else (some ⟨(Out.ret (V.int .i64 i1)), [], none⟩)) else (some ⟨(Out.ret (V.int .i64 i1)), [], none⟩)) := (LP_eq ..).trans (by kernel_rfl)
theorem L1_1_0_1_0_0_1_0_0_1_1_0_eq (i0 i1 i2 i3 : Int) (l4 l5 l6 l7 l8 : List (List V)) : L1_1_0_1_0_0_1_0_0_1_1_0 i0 i1 i2 i3 l4 l5 l6 l7 l8 =
    (if (((0 : Int) ≤ i2) ∧ (i2 < (l7.length : Int))) then (V.asSl (List.getD (List.getD l7 (Int.toNat i2) []) 3 V.undef) T_api_Expr (fun es29 => (bif (decide (i3 < (es29.length : Int))) then (bif (decide (i1 ≤ i0)) then (if (((0 : Int) ≤ i2) ∧ (i2 < (l7.length : Int))) then (V.asSl (List.getD (List.getD l7 (Int.toNat i2) []) 3 V.undef) T_api_Expr (fun es31 => (if (((0 : Int) ≤ i3) ∧ (i3 < (es31.length : Int))) then (V.asInt (List.getD (List.getD es31 (Int.toNat i3) []) 0 V.undef) .i64 (fun n32 => (V.asStr (List.getD (List.getD es31 (Int.toNat i3) []) 1 V.undef) (fun s33 => (V.asInt (List.getD (List.getD es31 (Int.toNat i3) []) 2 V.undef) .i64 (fun n34 => (V.asSl (List.getD (List.getD es31 (Int.toNat i3) []) 3 V.undef) T_api_Expr (fun es35 => ((den Sp ref03_ExprSize.id [(V.agg [(V.int .i64 n32), (V.str s33), (V.int .i64 n34), (V.sl .no T_api_Expr es35)]), (V.int .i64 i0)] [] none)).bind (fun r36 => (Res.onRet r36 (fun v37 => (V.asInt v37 .i64 (fun n38 => (L1_1_0_1_0_0_1_0_0_1_1_0 i0 (IntKind.wrap .i64 ((IntKind.wrap .i64 (i1 + (1 : Int))) + n38)) i2 (IntKind.wrap .i64 (i3 + (1 : Int))) l4 l5 l6 l7 l8)))))))))))))) else none))) else none) else (L1_1_0_1_0v1 i0 i1 (IntKind.wrap .i64 (i2 + (1 : Int))) i3 l4 l5 l6 l7 l8)) else (L1_1_0_1_0v1 i0 i1 (IntKind.wrap .i64 (i2 + (1 : Int))) i3 l4 l5 l6 l7 l8)))) else none) := (LP_eq ..).trans (by kernel_rfl)
theorem L1_1_0_1_0v1_eq (i0 i1 i2 i3 : Int) (l4 l5 l6 l7 l8 : List (List V)) : L1_1_0_1_0v1 i0 i1 i2 i3 l4 l5 l6 l7 l8 =
    (bif (decide (i2 < (l7.length : Int))) then (bif (decide (i1 ≤ i0)) then (L1_1_0_1_0_0_1_0_0_1_1_0 i0 (IntKind.wrap .i64 (i1 + (1 : Int))) i2 (0 : Int) l4 l5 l6 l7 l8) else (some ⟨(Out.ret (V.int .i64 i1)), [], none⟩)) else (some ⟨(Out.ret (V.int .i64 i1)), [], none⟩)) := (LP_eq ..).trans (by kernel_rfl)
theorem eq (a0_0 a0_1 a0_2 a0_3 a0_4 : List (List V)) (a1 : Int) : den Sp id [(V.agg [(V.sl .no T_api_Pair a0_0), (V.sl .no T_api_Pair a0_1), (V.sl .no T_parallaxref12_Keep a0_2), (V.sl .no T_parallaxref12_Break a0_3), (V.sl .no T_parallaxref12_Watch a0_4)]), (V.int .i64 a1)] [] none =
    (L1_1_0_1_0 a1 (IntKind.wrap .i64 ((IntKind.wrap .i64 ((IntKind.wrap .i64 ((a0_0.length : Int) + (a0_1.length : Int))) + (a0_2.length : Int))) + (a0_4.length : Int))) a0_0 a0_1 a0_2 a0_3 a0_4) := (den_eq ..).trans (by kernel_rfl)
end ref12_Size
namespace law12_great
noncomputable abbrev e (p : List Nat) := ev Sp (den Sp) id Tryz.f9.ntmps (cAt (bodyOf Tryz.f9) p)
noncomputable abbrev cn (n0 : List Nat) := canon Sp id n0
noncomputable abbrev K : K := kFin Sp (den Sp) Tryz.f9 0
noncomputable def L1_1_0_1_0 (i0 i1 : Int) (l2 l3 l4 l5 l6 : List (List V)) : Option Res := LP (e [1, 1, 0, 1, 0, 0]) (cn [1001]) (kBlk 0 (kSeq (e [1, 1, 1]) (K))) ([(1, (V.ref 1001 0)), (3, (V.int .i64 i0)), (4, (V.int .i64 i1)), (5, V.undef)], ⟨[(1001, (Blk.cells T_parallaxref12_File [(V.sl .no T_api_Pair l2), (V.sl .no T_api_Pair l3), (V.sl .no T_parallaxref12_Keep l4), (V.sl .no T_parallaxref12_Break l5), (V.sl .no T_parallaxref12_Watch l6)] false))], [], [], [], none⟩)
noncomputable def L1_1_1_0_1_0 (i0 i1 i2 : Int) (l3 l4 l5 l6 l7 : List (List V)) : Option Res := LP (e [1, 1, 1, 0, 1, 0, 0]) (cn [1001]) (kBlk 2 (kSeq (e [1, 1, 1, 1]) (K))) ([(1, (V.ref 1001 0)), (3, (V.int .i64 i0)), (4, (V.int .i64 i1)), (5, (V.int .i64 i2))], ⟨[(1001, (Blk.cells T_parallaxref12_File [(V.sl .no T_api_Pair l3), (V.sl .no T_api_Pair l4), (V.sl .no T_parallaxref12_Keep l5), (V.sl .no T_parallaxref12_Break l6), (V.sl .no T_parallaxref12_Watch l7)] false))], [], [], [], none⟩)
theorem L1_1_0_1_0_eq (i0 i1 : Int) (l2 l3 l4 l5 l6 : List (List V)) : L1_1_0_1_0 i0 i1 l2 l3 l4 l5 l6 =
    (bif (decide (i1 < (l2.length : Int))) then (bif (decide (i0 ≤ (600 : Int))) then (if (((0 : Int) ≤ i1) ∧ (i1 < (l2.length : Int))) then (V.asStr (List.getD (List.getD l2 (Int.toNat i1) []) 0 V.undef) (fun s20 => (if (((0 : Int) ≤ i1) ∧ (i1 < (l2.length : Int))) then (V.asStr (List.getD (List.getD l2 (Int.toNat i1) []) 1 V.undef) (fun s21 => (if (((0 : Int) ≤ i1) ∧ (i1 < (l2.length : Int))) then (V.asStr (List.getD (List.getD l2 (Int.toNat i1) []) 2 V.undef) (fun s22 => (if (((0 : Int) ≤ i1) ∧ (i1 < (l2.length : Int))) then (V.asStr (List.getD (List.getD l2 (Int.toNat i1) []) 3 V.undef) (fun s23 => (L1_1_0_1_0 (IntKind.wrap .i64 ((IntKind.wrap .i64 ((IntKind.wrap .i64 ((IntKind.wrap .i64 (i0 + (IntKind.wrap .i64 (Int.tdiv (((ByteArray.size s20) : Nat) : Int) (8 : Int))))) + (IntKind.wrap .i64 (Int.tdiv (((ByteArray.size s21) : Nat) : Int) (8 : Int))))) + (IntKind.wrap .i64 (Int.tdiv (((ByteArray.size s22) : Nat) : Int) (8 : Int))))) + (IntKind.wrap .i64 (Int.tdiv (((ByteArray.size s23) : Nat) : Int) (8 : Int))))) (IntKind.wrap .i64 (i1 + (1 : Int))) l2 l3 l4 l5 l6))) else none))) else none))) else none))) else none) else (L1_1_1_0_1_0 i0 i1 (0 : Int) l2 l3 l4 l5 l6)) else (L1_1_1_0_1_0 i0 i1 (0 : Int) l2 l3 l4 l5 l6)) := (LP_eq ..).trans (by kernel_rfl)
theorem L1_1_1_0_1_0_eq (i0 i1 i2 : Int) (l3 l4 l5 l6 l7 : List (List V)) : L1_1_1_0_1_0 i0 i1 i2 l3 l4 l5 l6 l7 =
    (bif (decide (i2 < (l4.length : Int))) then (bif (decide (i0 ≤ (600 : Int))) then (if (((0 : Int) ≤ i2) ∧ (i2 < (l4.length : Int))) then (V.asStr (List.getD (List.getD l4 (Int.toNat i2) []) 0 V.undef) (fun s30 => (if (((0 : Int) ≤ i2) ∧ (i2 < (l4.length : Int))) then (V.asStr (List.getD (List.getD l4 (Int.toNat i2) []) 1 V.undef) (fun s31 => (if (((0 : Int) ≤ i2) ∧ (i2 < (l4.length : Int))) then (V.asStr (List.getD (List.getD l4 (Int.toNat i2) []) 2 V.undef) (fun s32 => (if (((0 : Int) ≤ i2) ∧ (i2 < (l4.length : Int))) then (V.asStr (List.getD (List.getD l4 (Int.toNat i2) []) 3 V.undef) (fun s33 => (L1_1_1_0_1_0 (IntKind.wrap .i64 ((IntKind.wrap .i64 ((IntKind.wrap .i64 ((IntKind.wrap .i64 (i0 + (IntKind.wrap .i64 (Int.tdiv (((ByteArray.size s30) : Nat) : Int) (8 : Int))))) + (IntKind.wrap .i64 (Int.tdiv (((ByteArray.size s31) : Nat) : Int) (8 : Int))))) + (IntKind.wrap .i64 (Int.tdiv (((ByteArray.size s32) : Nat) : Int) (8 : Int))))) + (IntKind.wrap .i64 (Int.tdiv (((ByteArray.size s33) : Nat) : Int) (8 : Int))))) i1 (IntKind.wrap .i64 (i2 + (1 : Int))) l3 l4 l5 l6 l7))) else none))) else none))) else none))) else none) else (some ⟨(Out.ret (V.bool (decide (i0 > (600 : Int))))), [], none⟩)) else (some ⟨(Out.ret (V.bool (decide (i0 > (600 : Int))))), [], none⟩)) := (LP_eq ..).trans (by kernel_rfl)
theorem eq (a0_0 a0_1 a0_2 a0_3 a0_4 : List (List V)) : den Sp id [(V.agg [(V.sl .no T_api_Pair a0_0), (V.sl .no T_api_Pair a0_1), (V.sl .no T_parallaxref12_Keep a0_2), (V.sl .no T_parallaxref12_Break a0_3), (V.sl .no T_parallaxref12_Watch a0_4)])] [] none =
    ((den Sp ref12_Size.id [(V.agg [(V.sl .no T_api_Pair a0_0), (V.sl .no T_api_Pair a0_1), (V.sl .no T_parallaxref12_Keep a0_2), (V.sl .no T_parallaxref12_Break a0_3), (V.sl .no T_parallaxref12_Watch a0_4)]), (V.int .i64 (600 : Int))] [] none)).bind (fun r7 => (Res.onRet r7 (fun v8 => (V.asInt v8 .i64 (fun n9 => (L1_1_0_1_0 n9 (0 : Int) a0_0 a0_1 a0_2 a0_3 a0_4)))))) := (den_eq ..).trans (by kernel_rfl)
end law12_great
namespace law12_own
noncomputable abbrev e (p : List Nat) := ev Sp (den Sp) id Tryz.f12.ntmps (cAt (bodyOf Tryz.f12) p)
noncomputable abbrev cn (n0 : List Nat) := canon Sp id n0
noncomputable abbrev K : K := kFin Sp (den Sp) Tryz.f12 0
noncomputable def L1_1_0_1_0 (i0 : Int) (l1 l2 l3 l4 l5 l6 l7 l8 : List (List V)) : Option Res := LP (e [1, 1, 0, 1, 0, 0]) (cn [1001, 1002, 1003]) (kBlk 0 (kSeq (e [1, 1, 1]) (K))) ([(1, (V.ref 1001 0)), (2, (V.ref 1002 0)), (3, (V.ref 1003 0)), (4, (V.int .i64 i0)), (5, V.undef), (7, V.undef)], ⟨[(1001, (Blk.cells T_parallaxref12_File [(V.sl .no T_api_Pair l1), (V.sl .no T_api_Pair l2), (V.sl .no T_parallaxref12_Keep l3), (V.sl .no T_parallaxref12_Break l4), (V.sl .no T_parallaxref12_Watch l5)] false)), (1002, (Blk.cells T_decl_File [(V.sl (Tok.row 0) T_api_Pair []), (V.sl (Tok.row 1) T_api_Pair []), (V.sl (Tok.row 2) T_decl_Keep []), (V.sl (Tok.row 3) T_decl_Break []), (V.sl (Tok.row 4) T_decl_Watch [])] false)), (1003, (Blk.cells T_decl_File [(V.sl .no T_api_Pair l6), (V.sl .no T_api_Pair l7), (V.sl (Tok.row 5) T_decl_Keep l8), (V.sl (Tok.row 6) T_decl_Break []), (V.sl (Tok.row 7) T_decl_Watch [])] false))], [0, 1, 2, 3, 4, 5, 6, 7], [], [], none⟩)
noncomputable def L1_1_1_0_1_0 (i0 i1 : Int) (l2 l3 l4 l5 l6 l7 l8 l9 l10 : List (List V)) : Option Res := LP (e [1, 1, 1, 0, 1, 0, 0]) (cn [1001, 1002, 1003]) (kBlk 2 (kSeq (e [1, 1, 1, 1]) (K))) ([(1, (V.ref 1001 0)), (2, (V.ref 1002 0)), (3, (V.ref 1003 0)), (4, (V.int .i64 i0)), (5, (V.int .i64 i1)), (7, V.undef)], ⟨[(1001, (Blk.cells T_parallaxref12_File [(V.sl .no T_api_Pair l2), (V.sl .no T_api_Pair l3), (V.sl .no T_parallaxref12_Keep l4), (V.sl .no T_parallaxref12_Break l5), (V.sl .no T_parallaxref12_Watch l6)] false)), (1002, (Blk.cells T_decl_File [(V.sl (Tok.row 0) T_api_Pair []), (V.sl (Tok.row 1) T_api_Pair []), (V.sl (Tok.row 2) T_decl_Keep []), (V.sl (Tok.row 3) T_decl_Break []), (V.sl (Tok.row 4) T_decl_Watch [])] false)), (1003, (Blk.cells T_decl_File [(V.sl .no T_api_Pair l7), (V.sl .no T_api_Pair l8), (V.sl (Tok.row 5) T_decl_Keep l9), (V.sl (Tok.row 6) T_decl_Break l10), (V.sl (Tok.row 7) T_decl_Watch [])] false))], [0, 1, 2, 3, 4, 5, 6, 7], [], [], none⟩)
noncomputable def L1_1_1_1_0_1_0 (i0 i1 i2 : Int) (l3 l4 l5 l6 l7 l8 l9 l10 l11 l12 : List (List V)) : Option Res := LP (e [1, 1, 1, 1, 0, 1, 0, 0]) (cn [1001, 1002, 1003]) (kBlk 4 (kSeq (e [1, 1, 1, 1, 1]) (K))) ([(1, (V.ref 1001 0)), (2, (V.ref 1002 0)), (3, (V.ref 1003 0)), (4, (V.int .i64 i0)), (5, (V.int .i64 i1)), (7, (V.int .i64 i2))], ⟨[(1001, (Blk.cells T_parallaxref12_File [(V.sl .no T_api_Pair l3), (V.sl .no T_api_Pair l4), (V.sl .no T_parallaxref12_Keep l5), (V.sl .no T_parallaxref12_Break l6), (V.sl .no T_parallaxref12_Watch l7)] false)), (1002, (Blk.cells T_decl_File [(V.sl (Tok.row 0) T_api_Pair []), (V.sl (Tok.row 1) T_api_Pair []), (V.sl (Tok.row 2) T_decl_Keep []), (V.sl (Tok.row 3) T_decl_Break []), (V.sl (Tok.row 4) T_decl_Watch [])] false)), (1003, (Blk.cells T_decl_File [(V.sl .no T_api_Pair l8), (V.sl .no T_api_Pair l9), (V.sl (Tok.row 5) T_decl_Keep l10), (V.sl (Tok.row 6) T_decl_Break l11), (V.sl (Tok.row 7) T_decl_Watch l12)] false))], [0, 1, 2, 3, 4, 5, 6, 7], [], [], none⟩)
theorem L1_1_0_1_0_eq (i0 : Int) (l1 l2 l3 l4 l5 l6 l7 l8 : List (List V)) : L1_1_0_1_0 i0 l1 l2 l3 l4 l5 l6 l7 l8 =
    (bif (decide (i0 < (l3.length : Int))) then (if (((0 : Int) ≤ i0) ∧ (i0 < (l3.length : Int))) then (V.asInt (List.getD (List.getD l3 (Int.toNat i0) []) 0 V.undef) .i64 (fun n19 => (if (((0 : Int) ≤ i0) ∧ (i0 < (l3.length : Int))) then (V.asStr (List.getD (List.getD l3 (Int.toNat i0) []) 1 V.undef) (fun s20 => (if (((0 : Int) ≤ i0) ∧ (i0 < (l3.length : Int))) then (V.asStr (List.getD (List.getD l3 (Int.toNat i0) []) 2 V.undef) (fun s21 => (if (((List.length l8) + (List.length [[(V.int .i64 n19), (V.str s20), (V.str s21)]])) ≤ most) then (L1_1_0_1_0 (IntKind.wrap .i64 (i0 + (1 : Int))) l1 l2 l3 l4 l5 l6 l7 (l8 ++ [[(V.int .i64 n19), (V.str s20), (V.str s21)]])) else none))) else none))) else none))) else none) else (L1_1_1_0_1_0 i0 (0 : Int) l1 l2 l3 l4 l5 l6 l7 l8 [])) := (LP_eq ..).trans (by kernel_rfl)
theorem L1_1_1_0_1_0_eq (i0 i1 : Int) (l2 l3 l4 l5 l6 l7 l8 l9 l10 : List (List V)) : L1_1_1_0_1_0 i0 i1 l2 l3 l4 l5 l6 l7 l8 l9 l10 =
    (bif (decide (i1 < (l5.length : Int))) then (if (((0 : Int) ≤ i1) ∧ (i1 < (l5.length : Int))) then (V.asInt (List.getD (List.getD l5 (Int.toNat i1) []) 0 V.undef) .i64 (fun n32 => (V.asStr (List.getD (List.getD l5 (Int.toNat i1) []) 1 V.undef) (fun s33 => (V.asInt (List.getD (List.getD l5 (Int.toNat i1) []) 2 V.undef) .i64 (fun n34 => (V.asSl (List.getD (List.getD l5 (Int.toNat i1) []) 3 V.undef) T_api_Expr (fun es35 => (if (((List.length l10) + (List.length [[(V.int .i64 n32), (V.str s33), (V.int .i64 n34), (V.sl .no T_api_Expr es35)]])) ≤ most) then (L1_1_1_0_1_0 i0 (IntKind.wrap .i64 (i1 + (1 : Int))) l2 l3 l4 l5 l6 l7 l8 l9 (l10 ++ [[(V.int .i64 n32), (V.str s33), (V.int .i64 n34), (V.sl .no T_api_Expr es35)]])) else none))))))))) else none) else (L1_1_1_1_0_1_0 i0 i1 (0 : Int) l2 l3 l4 l5 l6 l7 l8 l9 l10 [])) := (LP_eq ..).trans (by kernel_rfl)
theorem L1_1_1_1_0_1_0_eq (i0 i1 i2 : Int) (l3 l4 l5 l6 l7 l8 l9 l10 l11 l12 : List (List V)) : L1_1_1_1_0_1_0 i0 i1 i2 l3 l4 l5 l6 l7 l8 l9 l10 l11 l12 =
    (bif (decide (i2 < (l7.length : Int))) then (if (((0 : Int) ≤ i2) ∧ (i2 < (l7.length : Int))) then (V.asInt (List.getD (List.getD l7 (Int.toNat i2) []) 0 V.undef) .i64 (fun n47 => (if (((0 : Int) ≤ i2) ∧ (i2 < (l7.length : Int))) then (V.asStr (List.getD (List.getD l7 (Int.toNat i2) []) 1 V.undef) (fun s48 => (if (((0 : Int) ≤ i2) ∧ (i2 < (l7.length : Int))) then (V.asStr (List.getD (List.getD l7 (Int.toNat i2) []) 2 V.undef) (fun s49 => (if (((List.length l12) + (List.length [[(V.int .i64 n47), (V.str s48), (V.str s49)]])) ≤ most) then (L1_1_1_1_0_1_0 i0 i1 (IntKind.wrap .i64 (i2 + (1 : Int))) l3 l4 l5 l6 l7 l8 l9 l10 l11 (l12 ++ [[(V.int .i64 n47), (V.str s48), (V.str s49)]])) else none))) else none))) else none))) else none) else (some ⟨(Out.ret (V.agg [(V.sl .no T_api_Pair l8), (V.sl .no T_api_Pair l9), (V.sl .no T_decl_Keep l10), (V.sl .no T_decl_Break l11), (V.sl .no T_decl_Watch l12)])), [], none⟩)) := (LP_eq ..).trans (by kernel_rfl)
theorem eq (a0_0 a0_1 a0_2 a0_3 a0_4 : List (List V)) : den Sp id [(V.agg [(V.sl .no T_api_Pair a0_0), (V.sl .no T_api_Pair a0_1), (V.sl .no T_parallaxref12_Keep a0_2), (V.sl .no T_parallaxref12_Break a0_3), (V.sl .no T_parallaxref12_Watch a0_4)])] [] none =
    (L1_1_0_1_0 (0 : Int) a0_0 a0_1 a0_2 a0_3 a0_4 a0_0 a0_1 []) := (den_eq ..).trans (by kernel_rfl)
end law12_own
namespace law12_wide
noncomputable abbrev e (p : List Nat) := ev Sp (den Sp) id Tryz.f21.ntmps (cAt (bodyOf Tryz.f21) p)
noncomputable abbrev cn (n0 : List Nat) := canon Sp id n0
noncomputable abbrev K : K := kFin Sp (den Sp) Tryz.f21 0
theorem eq (a0_0 a1_0 : List (List V)) : den Sp id [(V.agg [(V.sl .no T_api_Proc a0_0)]), (V.agg [(V.sl .no T_api_Proc a1_0)])] [] none =
    ((den Sp ref03_Size.id [(V.agg [(V.sl .no T_api_Proc a0_0)]), (V.int .i64 (500 : Int))] [] none)).bind (fun r4 => (Res.onRet r4 (fun v5 => (V.asInt v5 .i64 (fun n6 => (bif (decide (n6 > (500 : Int))) then (some ⟨(Out.ret (V.bool true)), [], none⟩) else ((den Sp ref03_Size.id [(V.agg [(V.sl .no T_api_Proc a1_0)]), (V.int .i64 (500 : Int))] [] none)).bind (fun r7 => (Res.onRet r7 (fun v8 => (V.asInt v8 .i64 (fun n9 => (some ⟨(Out.ret (V.bool (decide (n9 > (500 : Int))))), [], none⟩)))))))))))) := (den_eq ..).trans (by kernel_rfl)
end law12_wide
end Go.Proofs.YtmhnmelaodhemaaGreatDoor
namespace Go.Proofs.YtmhnmelaodhemaaGreatDoor
open Go Go.Proofs.Ab Go.Proofs.Px
set_option linter.unusedVariables false
set_option linter.unusedSimpArgs false
set_option maxRecDepth 100000
def Bk.sizes : List Bk → Nat
  | [] => 0
  | b :: l => 1 + b.whn.length + Ex.sizes b.whn + Bk.sizes l
theorem Bk.sizes_drop {l : List Bk} {i : Nat} (h : i < l.length) : Bk.sizes (l.drop i) = 1 + l[i].whn.length + Ex.sizes l[i].whn + Bk.sizes (l.drop (i + 1)) := by
  rw [List.drop_eq_getElem_cons h, Bk.sizes]
theorem Bk.sizes_len : ∀ l : List Bk, l.length ≤ Bk.sizes l
  | [] => Nat.zero_le _
  | b :: l => by have := Bk.sizes_len l; rw [Bk.sizes, List.length_cons]; omega
theorem Bk.sizes_mem : ∀ {l : List Bk} {b : Bk}, b ∈ l → b.whn.length + Ex.sizes b.whn ≤ Bk.sizes l
  | x :: l, b, h => by
    rw [Bk.sizes]
    rcases List.mem_cons.1 h with rfl | h
    · omega
    · have := Bk.sizes_mem h; omega
theorem ref12_Size_is (f : Fl) (hf : FlOk f) : ∃ n : Int, den Sp ref12_Size.id [.agg f.v, .int .i64 600] [] none = some ⟨.ret (.int .i64 n), [], none⟩ ∧ 0 ≤ n ∧ n ≤ 1125899906842624 ∧
    (n ≤ 600 → n = (f.pairs.length : Int) + (f.sames.length : Int) + (f.keeps.length : Int) + (f.watches.length : Int) + (Bk.sizes f.breaks : Int)) := by
  have hb := hf.breaks
  have inner : ∀ i (hi : i < f.breaks.length), (∀ n k : Int, 0 ≤ n → n ≤ 1125899906842624 → ∃ n2 : Int, ref12_Size.L1_1_0_1_0v1 600 n ((i + 1 : Nat) : Int) k (f.pairs.map Pai.v) (f.sames.map Pai.v) (f.keeps.map Kp.v) (f.breaks.map Bk.v) (f.watches.map Wt.v) = some ⟨.ret (.int .i64 n2), [], none⟩ ∧ n ≤ n2 ∧ n2 ≤ 1125899906842624 ∧ (n2 ≤ 600 → n2 = n + (Bk.sizes (f.breaks.drop (i + 1)) : Int))) →
      ∀ j : Nat, j ≤ f.breaks[i].whn.length → ∀ n : Int, 0 ≤ n → n ≤ 1125899906842624 → ∃ n2 : Int, ref12_Size.L1_1_0_1_0_0_1_0_0_1_1_0 600 n (i : Int) (j : Int) (f.pairs.map Pai.v) (f.sames.map Pai.v) (f.keeps.map Kp.v) (f.breaks.map Bk.v) (f.watches.map Wt.v) = some ⟨.ret (.int .i64 n2), [], none⟩ ∧ n ≤ n2 ∧ n2 ≤ 1125899906842624 ∧
        (n2 ≤ 600 → n2 = n + (f.breaks[i].whn.length - j : Int) + (Ex.sizes (f.breaks[i].whn.drop j) : Int) + (Bk.sizes (f.breaks.drop (i + 1)) : Int)) := by
    intro i hi hnext
    have ho := hb.2 _ (List.getElem_mem hi)
    have hw := ho.whn
    have hwr : IntKind.wrap .i64 ((i : Int) + 1) = (i : Int) + 1 := wrap_in (by omega) (by omega)
    simp only [Int.natCast_add, Int.natCast_one] at hnext
    refine down (fun n hn hn2 => ?_) fun j hj ihj n hn hn2 => ?_
    · obtain ⟨n2, g1, g2, g3, g4⟩ := hnext n (f.breaks[i].whn.length : Int) hn hn2
      refine ⟨n2, ?_, g2, g3, fun h => ?_⟩
      · rw [ref12_Size.L1_1_0_1_0_0_1_0_0_1_1_0_eq]
        simp [hi, hwr, g1]
      · have := g4 h
        rw [List.drop_length, Ex.sizes]; omega
    · by_cases hc : n ≤ 600
      · obtain ⟨m, h1, h2, h3, h4⟩ := ref03_ExprSize_is f.breaks[i].whn[j] (hw.2 _ (List.getElem_mem hj)) 600 (by omega) (by omega)
        obtain ⟨n2, g1, g2, g3, g4⟩ := ihj (n + 1 + m) (by omega) (by omega)
        have w1 : IntKind.wrap .i64 (n + 1) = n + 1 := wrap_in (by omega) (by omega)
        have w2 : IntKind.wrap .i64 (n + 1 + m) = n + 1 + m := wrap_in (by omega) (by omega)
        have w3 : IntKind.wrap .i64 ((j : Int) + 1) = (j : Int) + 1 := wrap_in (by omega) (by omega)
        simp only [Int.natCast_add, Int.natCast_one] at g1
        refine ⟨n2, ?_, by omega, g3, fun h => ?_⟩
        · rw [ref12_Size.L1_1_0_1_0_0_1_0_0_1_1_0_eq]
          simp [hi, hj, hc, h1, w1, w2, w3, g1]
        · have e1 := g4 h
          have e2 := h4 (by omega)
          rw [Ex.sizes_drop hj]; omega
      · obtain ⟨n2, g1, g2, g3, g4⟩ := hnext n (j : Int) hn hn2
        refine ⟨n2, ?_, g2, g3, fun h => by omega⟩
        rw [ref12_Size.L1_1_0_1_0_0_1_0_0_1_1_0_eq]
        simp [hi, hj, hc, hwr, g1]
  have outer : ∀ i : Nat, i ≤ f.breaks.length → ∀ n k : Int, 0 ≤ n → n ≤ 1125899906842624 → ∃ n2 : Int, ref12_Size.L1_1_0_1_0v1 600 n (i : Int) k (f.pairs.map Pai.v) (f.sames.map Pai.v) (f.keeps.map Kp.v) (f.breaks.map Bk.v) (f.watches.map Wt.v) = some ⟨.ret (.int .i64 n2), [], none⟩ ∧ n ≤ n2 ∧ n2 ≤ 1125899906842624 ∧ (n2 ≤ 600 → n2 = n + (Bk.sizes (f.breaks.drop i) : Int)) := by
    refine down (fun n k hn hn2 => ?_) fun i hi ihi n k hn hn2 => ?_
    · refine ⟨n, ?_, by omega, hn2, fun _ => by rw [List.drop_length, Bk.sizes]; omega⟩
      rw [ref12_Size.L1_1_0_1_0v1_eq]; simp
    · by_cases hc : n ≤ 600
      · obtain ⟨n2, g1, g2, g3, g4⟩ := inner i hi ihi 0 (Nat.zero_le _) (n + 1) (by omega) (by omega)
        have w1 : IntKind.wrap .i64 (n + 1) = n + 1 := wrap_in (by omega) (by omega)
        refine ⟨n2, ?_, by omega, g3, fun h => ?_⟩
        · rw [ref12_Size.L1_1_0_1_0v1_eq]
          simp [hi, hc, w1]
          simpa using g1
        · have := g4 h
          rw [Bk.sizes_drop hi]
          rw [List.drop_zero] at this
          omega
      · refine ⟨n, ?_, by omega, hn2, fun h => by omega⟩
        rw [ref12_Size.L1_1_0_1_0v1_eq]; simp [hi, hc]
  have l1 := hf.pairs.1
  have l2 := hf.sames.1
  have l3 := hf.keeps.1
  have l4 := hf.watches.1
  obtain ⟨n2, g1, g2, g3, g4⟩ := outer 0 (Nat.zero_le _) ((f.pairs.length : Int) + (f.sames.length : Int) + (f.keeps.length : Int) + (f.watches.length : Int)) 0 (by omega) (by omega)
  refine ⟨n2, ?_, by omega, g3, fun h => by have := g4 h; rw [List.drop_zero] at this; exact this⟩
  have e : ∀ n : Int, ref12_Size.L1_1_0_1_0 600 n (f.pairs.map Pai.v) (f.sames.map Pai.v) (f.keeps.map Kp.v) (f.breaks.map Bk.v) (f.watches.map Wt.v) = ref12_Size.L1_1_0_1_0v1 600 n 0 0 (f.pairs.map Pai.v) (f.sames.map Pai.v) (f.keeps.map Kp.v) (f.breaks.map Bk.v) (f.watches.map Wt.v) := fun n => by
    rw [ref12_Size.L1_1_0_1_0_eq, ref12_Size.L1_1_0_1_0v1_eq]
  rw [Fl.v, ref12_Size.eq]
  simp (disch := omega) only [List.length_map, wrap_in]
  rw [e]
  simpa using g1
def Pai.len (p : Pai) : Nat := p.procA.length / 8 + p.procB.length / 8 + p.varA.length / 8 + p.varB.length / 8
def Pai.lens : List Pai → Nat
  | [] => 0
  | p :: l => p.len + Pai.lens l
theorem Pai.lens_drop {l : List Pai} {i : Nat} (h : i < l.length) : Pai.lens (l.drop i) = l[i].len + Pai.lens (l.drop (i + 1)) := by
  rw [List.drop_eq_getElem_cons h, Pai.lens]
structure NotGreat (f : Fl) : Prop where
  num : f.pairs.length + f.sames.length + f.keeps.length + f.watches.length + Bk.sizes f.breaks ≤ 600
  pairs : Pai.lens f.pairs ≤ 600
  sames : Pai.lens f.sames ≤ 600
theorem law12_great_is (f : Fl) (hf : FlOk f) : ∃ g : Bool, den Sp law12_great.id [.agg f.v] [] none = some ⟨.ret (.bool g), [], none⟩ ∧ (g = false → NotGreat f) := by
  obtain ⟨n, h1, h2, h3, h4⟩ := ref12_Size_is f hf
  have second : ∀ x : Int, ∀ i : Nat, i ≤ f.sames.length → ∀ m : Int, 0 ≤ m → m ≤ 1125899906843824 → ∃ m2 : Int, law12_great.L1_1_1_0_1_0 m x (i : Int) (f.pairs.map Pai.v) (f.sames.map Pai.v) (f.keeps.map Kp.v) (f.breaks.map Bk.v) (f.watches.map Wt.v) = some ⟨.ret (.bool (decide (600 < m2))), [], none⟩ ∧ m ≤ m2 ∧ (m2 ≤ 600 → m2 = m + (Pai.lens (f.sames.drop i) : Int)) := by
    intro x
    have hl := hf.sames
    refine down (fun m hm hm2 => ?_) fun i hi ih m hm hm2 => ?_
    · refine ⟨m, ?_, by omega, fun _ => by rw [List.drop_length, Pai.lens]; omega⟩
      rw [law12_great.L1_1_1_0_1_0_eq]; simp
    · by_cases hc : m ≤ 600
      · have ho := hl.2 _ (List.getElem_mem hi)
        have e1 := ho.procA
        have e2 := ho.procB
        have e3 := ho.varA
        have e4 := ho.varB
        obtain ⟨m2, g1, g2, g3⟩ := ih (m + ((f.sames[i].procA.length / 8 : Nat) : Int) + ((f.sames[i].procB.length / 8 : Nat) : Int) + ((f.sames[i].varA.length / 8 : Nat) : Int) + ((f.sames[i].varB.length / 8 : Nat) : Int)) (by omega) (by omega)
        simp only [Int.natCast_add, Int.natCast_one] at g1
        refine ⟨m2, ?_, by omega, fun h => ?_⟩
        · rw [law12_great.L1_1_1_0_1_0_eq]
          simp (disch := omega) only [List.length_map, decide_eq_true (show (i : Int) < (f.sames.length : Int) by omega), cond_true, decide_eq_true hc, if_pos (in_row hi), Int.toNat_natCast, map_at _ _ _ hi, Pai.v_0, Pai.v_1, Pai.v_2, Pai.v_3, asStr_str, B_size, eighth, wrap_in]
          exact g1
        · have := g3 h
          rw [Pai.lens_drop hi, Pai.len]; omega
      · refine ⟨m, ?_, by omega, fun h => by omega⟩
        rw [law12_great.L1_1_1_0_1_0_eq]; simp [hi, hc]
  have first : ∀ i : Nat, i ≤ f.pairs.length → ∀ m : Int, 0 ≤ m → m ≤ 1125899906843224 → ∃ m2 : Int, law12_great.L1_1_0_1_0 m (i : Int) (f.pairs.map Pai.v) (f.sames.map Pai.v) (f.keeps.map Kp.v) (f.breaks.map Bk.v) (f.watches.map Wt.v) = some ⟨.ret (.bool (decide (600 < m2))), [], none⟩ ∧ m ≤ m2 ∧ (m2 ≤ 600 → m2 = m + (Pai.lens (f.pairs.drop i) : Int) + (Pai.lens f.sames : Int)) := by
    have hl := hf.pairs
    refine down (fun m hm hm2 => ?_) fun i hi ih m hm hm2 => ?_
    · obtain ⟨m2, g1, g2, g3⟩ := second (f.pairs.length : Int) 0 (Nat.zero_le _) m hm (by omega)
      refine ⟨m2, ?_, g2, fun h => by have := g3 h; rw [List.drop_length, Pai.lens]; rw [List.drop_zero] at this; omega⟩
      rw [law12_great.L1_1_0_1_0_eq]; simpa using g1
    · by_cases hc : m ≤ 600
      · have ho := hl.2 _ (List.getElem_mem hi)
        have e1 := ho.procA
        have e2 := ho.procB
        have e3 := ho.varA
        have e4 := ho.varB
        obtain ⟨m2, g1, g2, g3⟩ := ih (m + ((f.pairs[i].procA.length / 8 : Nat) : Int) + ((f.pairs[i].procB.length / 8 : Nat) : Int) + ((f.pairs[i].varA.length / 8 : Nat) : Int) + ((f.pairs[i].varB.length / 8 : Nat) : Int)) (by omega) (by omega)
        simp only [Int.natCast_add, Int.natCast_one] at g1
        refine ⟨m2, ?_, by omega, fun h => ?_⟩
        · rw [law12_great.L1_1_0_1_0_eq]
          simp (disch := omega) only [List.length_map, decide_eq_true (show (i : Int) < (f.pairs.length : Int) by omega), cond_true, decide_eq_true hc, if_pos (in_row hi), Int.toNat_natCast, map_at _ _ _ hi, Pai.v_0, Pai.v_1, Pai.v_2, Pai.v_3, asStr_str, B_size, eighth, wrap_in]
          exact g1
        · have := g3 h
          rw [Pai.lens_drop hi, Pai.len]; omega
      · obtain ⟨m2, g1, g2, g3⟩ := second (i : Int) 0 (Nat.zero_le _) m hm (by omega)
        refine ⟨m2, ?_, g2, fun h => by omega⟩
        rw [law12_great.L1_1_0_1_0_eq]
        simp [hi, hc]
        simpa using g1
  obtain ⟨m2, g1, g2, g3⟩ := first 0 (Nat.zero_le _) n h2 (by omega)
  refine ⟨decide (600 < m2), ?_, fun hg => ?_⟩
  · rw [Fl.v] at h1
    rw [Fl.v, law12_great.eq, h1]
    simpa using g1
  · have hm : m2 ≤ 600 := by simpa using hg
    have e1 := g3 hm
    rw [List.drop_zero] at e1
    have e2 := h4 (by omega)
    exact ⟨by omega, by omega, by omega⟩
theorem NotGreat.small {f : Fl} (h : NotGreat f) (hf : FlOk f) : SmallF f := by
  have := h.num
  have hb := Bk.sizes_len f.breaks
  exact ⟨by omega, by omega, by omega, by omega, by omega, fun x hx => by have := Bk.sizes_mem hx; omega, fun x hx => (hf.breaks.2 x hx).mark⟩
def Fl.ov (f : Fl) : List V := [.sl .no T_api_Pair (f.pairs.map Pai.v), .sl .no T_api_Pair (f.sames.map Pai.v), .sl .no T_decl_Keep (f.keeps.map Kp.v), .sl .no T_decl_Break (f.breaks.map Bk.v), .sl .no T_decl_Watch (f.watches.map Wt.v)]
theorem law12_own_is (f : Fl) (hf : SmallF f) : den Sp law12_own.id [.agg f.v] [] none = some ⟨.ret (.agg f.ov), [], none⟩ := by
  have hm : most = 1099511627776 := rfl
  have third : ∀ (x y : Int), ∀ i : Nat, i ≤ f.watches.length → law12_own.L1_1_1_1_0_1_0 x y (i : Int) (f.pairs.map Pai.v) (f.sames.map Pai.v) (f.keeps.map Kp.v) (f.breaks.map Bk.v) (f.watches.map Wt.v) (f.pairs.map Pai.v) (f.sames.map Pai.v) (f.keeps.map Kp.v) (f.breaks.map Bk.v) ((f.watches.take i).map Wt.v) = some ⟨.ret (.agg f.ov), [], none⟩ := by
    intro x y
    have hl := hf.watches
    refine down ?_ fun i hi ih => ?_
    · rw [law12_own.L1_1_1_1_0_1_0_eq, List.take_length]; simp [Fl.ov]
    · rw [List.take_succ_eq_append_getElem hi, List.map_append, List.map_singleton, Wt.v] at ih
      simp only [Int.natCast_add, Int.natCast_one] at ih
      have hw : IntKind.wrap .i64 ((i : Int) + 1) = (i : Int) + 1 := wrap_in (by omega) (by omega)
      rw [law12_own.L1_1_1_1_0_1_0_eq]
      simp (disch := omega) only [List.length_map, decide_eq_true (show (i : Int) < (f.watches.length : Int) by omega), cond_true, if_pos (in_row hi), Int.toNat_natCast, map_at _ _ _ hi, Wt.v_0, Wt.v_1, Wt.v_2, asInt_int, asStr_str, hw, List.length_take, List.length_singleton]
      rw [if_pos (by omega)]
      exact ih
  have second : ∀ (x : Int), ∀ i : Nat, i ≤ f.breaks.length → law12_own.L1_1_1_0_1_0 x (i : Int) (f.pairs.map Pai.v) (f.sames.map Pai.v) (f.keeps.map Kp.v) (f.breaks.map Bk.v) (f.watches.map Wt.v) (f.pairs.map Pai.v) (f.sames.map Pai.v) (f.keeps.map Kp.v) ((f.breaks.take i).map Bk.v) = some ⟨.ret (.agg f.ov), [], none⟩ := by
    intro x
    have hl := hf.breaks
    refine down ?_ fun i hi ih => ?_
    · rw [law12_own.L1_1_1_0_1_0_eq, List.take_length]; simpa using third x (f.breaks.length : Int) 0 (Nat.zero_le _)
    · rw [List.take_succ_eq_append_getElem hi, List.map_append, List.map_singleton, Bk.v] at ih
      simp only [Int.natCast_add, Int.natCast_one] at ih
      have hw : IntKind.wrap .i64 ((i : Int) + 1) = (i : Int) + 1 := wrap_in (by omega) (by omega)
      rw [law12_own.L1_1_1_0_1_0_eq]
      simp (disch := omega) only [List.length_map, decide_eq_true (show (i : Int) < (f.breaks.length : Int) by omega), cond_true, if_pos (in_row hi), Int.toNat_natCast, map_at _ _ _ hi, Bk.v_0, Bk.v_1, Bk.v_2, Bk.v_3, asInt_int, asStr_str, asSl_sl, hw, List.length_take, List.length_singleton]
      rw [if_pos (by omega)]
      exact ih
  have first : ∀ i : Nat, i ≤ f.keeps.length → law12_own.L1_1_0_1_0 (i : Int) (f.pairs.map Pai.v) (f.sames.map Pai.v) (f.keeps.map Kp.v) (f.breaks.map Bk.v) (f.watches.map Wt.v) (f.pairs.map Pai.v) (f.sames.map Pai.v) ((f.keeps.take i).map Kp.v) = some ⟨.ret (.agg f.ov), [], none⟩ := by
    have hl := hf.keeps
    refine down ?_ fun i hi ih => ?_
    · rw [law12_own.L1_1_0_1_0_eq, List.take_length]; simpa using second (f.keeps.length : Int) 0 (Nat.zero_le _)
    · rw [List.take_succ_eq_append_getElem hi, List.map_append, List.map_singleton, Kp.v] at ih
      simp only [Int.natCast_add, Int.natCast_one] at ih
      have hw : IntKind.wrap .i64 ((i : Int) + 1) = (i : Int) + 1 := wrap_in (by omega) (by omega)
      rw [law12_own.L1_1_0_1_0_eq]
      simp (disch := omega) only [List.length_map, decide_eq_true (show (i : Int) < (f.keeps.length : Int) by omega), cond_true, if_pos (in_row hi), Int.toNat_natCast, map_at _ _ _ hi, Kp.v_0, Kp.v_1, Kp.v_2, asInt_int, asStr_str, hw, List.length_take, List.length_singleton]
      rw [if_pos (by omega)]
      exact ih
  have h0 := first 0 (Nat.zero_le _)
  rw [Fl.v, law12_own.eq]
  simpa using h0
theorem law12_wide_is (a b : List Prc) (la : a.length ≤ 140737488351232) (lb : b.length ≤ 140737488351232) (oka : ∀ q ∈ a, PrcOk q) (okb : ∀ q ∈ b, PrcOk q) : ∃ g : Bool, den Sp law12_wide.id [.agg [.sl .no T_api_Proc (a.map Prc.v)], .agg [.sl .no T_api_Proc (b.map Prc.v)]] [] none = some ⟨.ret (.bool g), [], none⟩ ∧ (g = false → Prc.sizes a ≤ 500 ∧ Prc.sizes b ≤ 500) := by
  obtain ⟨n, s1, s2, s3⟩ := ref03_Size_is a la oka 500 (by omega) (by omega)
  obtain ⟨m, t1, t2, t3⟩ := ref03_Size_is b lb okb 500 (by omega) (by omega)
  rw [law12_wide.eq, s1]
  by_cases c : 500 < n
  · exact ⟨true, by simp [c], nofun⟩
  · refine ⟨decide (500 < m), by simp [c, t1], fun h => ?_⟩
    have hm : m ≤ 500 := by simpa using h
    have := s3 (by omega)
    have := t3 hm
    omega
end Go.Proofs.YtmhnmelaodhemaaGreatDoor
namespace Go.Proofs.YtmhnmelaodhemaaGreatDoor
open Go Go.Proofs.Ab Go.Proofs.Px
set_option linter.unusedVariables false
set_option linter.unusedSimpArgs false
set_option maxRecDepth 100000
theorem pairsE_none {a b : List Prc} : ∀ {l prev : List Pai} {i : Int}, pairsE a b prev l i = none ↔ ∀ (j : Nat) (h : j < l.length), pairE a b (prev ++ l.take j) l[j] = 0
  | [], prev, i => by simp [pairsE]
  | p :: l, prev, i => by
    unfold pairsE
    by_cases c : pairE a b prev p = 0
    · rw [if_neg (fun h => h c), pairsE_none]
      constructor
      · intro h j hj
        cases j with
        | zero => simpa using c
        | succ j => simpa [List.append_assoc] using h j (by simpa using hj)
      · intro h j hj
        have := h (j + 1) (by simpa using hj)
        simpa [List.append_assoc] using this
    · rw [if_pos c]
      refine ⟨nofun, fun h => absurd ?_ c⟩
      have h2 := h 0 (by simp)
      rw [List.getElem_cons_zero, List.take_zero, List.append_nil] at h2
      exact h2
theorem orE_0 {k : Int} {o : Option (Int × Int)} {t : Int × Int × Int} (ho : ∀ r, o = some r → r.2 ≠ 0) : (orE k o t).2.2 = 0 ↔ o = none ∧ t.2.2 = 0 := by
  unfold orE
  cases o with
  | none => simp
  | some r => simp [ho r rfl]
structure FitsE (f : Fl) (a b : List Prc) : Prop where
  pairs : ∀ (j : Nat) (h : j < f.pairs.length), pairE a b (f.pairs.take j) f.pairs[j] = 0
  sames : ∀ p ∈ f.sames, sameE a b f.pairs p = 0
  keeps : ∀ k ∈ f.keeps, keepE a b k = 0
  breaks : ∀ x ∈ f.breaks, stopE a b x = 0
  watches : ∀ k ∈ f.watches, watchE a b k = 0
theorem items_fit {f : Fl} {a b : List Prc} : (itemsE f a b).2.2 = 0 ↔ FitsE f a b := by
  unfold itemsE
  rw [orE_0 (fun r => pairsE_ne), orE_0 (fun r => firstE_ne), orE_0 (fun r => firstE_ne), orE_0 (fun r => firstE_ne), orE_0 (fun r => firstE_ne), firstE_none, firstE_none, firstE_none, firstE_none, pairsE_none]
  constructor
  · rintro ⟨h1, h2, h3, h4, h5, _⟩
    exact ⟨fun j h => by simpa using h1 j h, h2, h3, h4, h5⟩
  · rintro ⟨h1, h2, h3, h4, h5⟩
    exact ⟨fun j h => by simpa using h1 j h, h2, h3, h4, h5, rfl⟩
theorem file_fit {f : Fl} {a b : List Prc} : (fileE f a b).2.2 = 0 ↔ (checkP a).2.2 = 0 ∧ (checkP b).2.2 = 0 ∧ FitsE f a b := by
  unfold fileE
  by_cases c1 : (checkP a).2.2 = 0
  · by_cases c2 : (checkP b).2.2 = 0
    · simp [c1, c2, items_fit]
    · simp [c1, c2]
  · simp [c1]
theorem FitsE.nil {a b : List Prc} : FitsE ⟨[], [], [], [], []⟩ a b := ⟨(fun j h => by cases h), nofun, nofun, nofun, nofun⟩
theorem FitsE.less {f : Fl} {a b : List Prc} (h : FitsE f a b) {ss : List Pai} {ks : List Kp} {bs : List Bk} {ws : List Wt} (h1 : ∀ p ∈ ss, p ∈ f.sames) (h2 : ∀ p ∈ ks, p ∈ f.keeps) (h3 : ∀ p ∈ bs, p ∈ f.breaks) (h4 : ∀ p ∈ ws, p ∈ f.watches) :
    FitsE ⟨f.pairs, ss, ks, bs, ws⟩ a b := ⟨h.pairs, fun p hp => h.sames p (h1 p hp), fun p hp => h.keeps p (h2 p hp), fun p hp => h.breaks p (h3 p hp), fun p hp => h.watches p (h4 p hp)⟩
end Go.Proofs.YtmhnmelaodhemaaGreatDoor
namespace Go.Proofs.YtmhnmelaodhemaaGreatDoor
open Go Go.Proofs.Ab
set_option maxRecDepth 100000
set_option linter.unusedVariables false
namespace ref01_Among
noncomputable abbrev e (p : List Nat) := ev Sp (den Sp) id Tryz.f26.ntmps (cAt (bodyOf Tryz.f26) p)
noncomputable abbrev cn (n0 : List Nat) := canon Sp id n0
noncomputable abbrev K : K := kFin Sp (den Sp) Tryz.f26 0
theorem eq (a0 a1 : Int) : den Sp id [(V.int .i64 a0), (V.int .i64 a1)] [] none =
    (bif (decide (a1 < (1 : Int))) then (some ⟨(Out.ret (V.int .i64 (0 : Int))), [], none⟩) else (if (a1 = (0 : Int)) then none else (bif (decide ((Int.tmod a0 a1) < (0 : Int))) then (some ⟨(Out.ret (V.int .i64 (IntKind.wrap .i64 ((Int.tmod a0 a1) + a1)))), [], none⟩) else (some ⟨(Out.ret (V.int .i64 (Int.tmod a0 a1))), [], none⟩)))) := (den_eq ..).trans (by kernel_rfl)
end ref01_Among
end Go.Proofs.YtmhnmelaodhemaaGreatDoor
namespace Go.Proofs.YtmhnmelaodhemaaGreatDoor
open Go Go.Proofs.Ab Go.Proofs.Px
set_option linter.unusedVariables false
set_option linter.unusedSimpArgs false
theorem ref01_Among_is (a n : Int) (h0 : 1 ≤ n) (h1 : n ≤ 1000000000) : den Sp ref01_Among.id [.int .i64 a, .int .i64 n] [] none = some ⟨.ret (.int .i64 (a % n)), [], none⟩ := by
  rw [ref01_Among.eq]
  have hn : ¬ n < 1 := by omega
  have hn0 : ¬ n = 0 := by omega
  have hm0 := Int.emod_nonneg a hn0
  have hm1 := Int.emod_lt_of_pos a (show 0 < n by omega)
  have ht : Int.tmod a n = if 0 ≤ a ∨ n ∣ a then a % n else a % n - n := by
    have := Int.tmod_eq_emod (a := a) (b := n)
    rw [this]
    have e : (n.natAbs : Int) = n := by omega
    split
    · simp
    · rw [e]
  by_cases c : 0 ≤ a ∨ n ∣ a
  · rw [if_pos c] at ht
    simp [hn, hn0, ht, show ¬ a % n < 0 by omega]
  · rw [if_neg c] at ht
    have h2 : a % n - n < 0 := by omega
    simp (disch := omega) [hn, hn0, ht, h2, wrap_in]
end Go.Proofs.YtmhnmelaodhemaaGreatDoor
namespace Go.Proofs.YtmhnmelaodhemaaGreatDoor
open Go Go.Proofs.Ab
set_option maxRecDepth 100000
set_option linter.unusedVariables false
namespace law12_DeclLess
noncomputable abbrev e (p : List Nat) := ev Sp (den Sp) id Tryz.f8.ntmps (cAt (bodyOf Tryz.f8) p)
noncomputable abbrev cn (n0 : List Nat) := canon Sp id n0
noncomputable abbrev K : K := kFin Sp (den Sp) Tryz.f8 0
theorem eq (a0_0 a0_1 a0_2 a0_3 a0_4 a1_0 a2_0 : List (List V)) (a3 a4 : Int) : den Sp id [(V.agg [(V.sl .no T_api_Pair a0_0), (V.sl .no T_api_Pair a0_1), (V.sl .no T_parallaxref12_Keep a0_2), (V.sl .no T_parallaxref12_Break a0_3), (V.sl .no T_parallaxref12_Watch a0_4)]), (V.agg [(V.sl .no T_api_Proc a1_0)]), (V.agg [(V.sl .no T_api_Proc a2_0)]), (V.int .i64 a3), (V.int .i64 a4)] [] none =
    ((den Sp law12_great.id [(V.agg [(V.sl .no T_api_Pair a0_0), (V.sl .no T_api_Pair a0_1), (V.sl .no T_parallaxref12_Keep a0_2), (V.sl .no T_parallaxref12_Break a0_3), (V.sl .no T_parallaxref12_Watch a0_4)])] [] none)).bind (fun r11 => (Res.onRet r11 (fun v12 => (V.asBool v12 (fun b13 => (bif b13 then ((den Sp law12_known.id [] [] none)).bind (fun r15 => (Res.onRet r15 (fun v16 => (V.asBool v16 (fun b17 => (some ⟨(Out.ret (V.bool b17)), [], none⟩)))))) else ((den Sp law12_wide.id [(V.agg [(V.sl .no T_api_Proc a1_0)]), (V.agg [(V.sl .no T_api_Proc a2_0)])] [] none)).bind (fun r14 => (Res.onRet r14 (fun v15 => (V.asBool v15 (fun b16 => (bif b16 then ((den Sp law12_known.id [] [] none)).bind (fun r18 => (Res.onRet r18 (fun v19 => (V.asBool v19 (fun b20 => (some ⟨(Out.ret (V.bool b20)), [], none⟩)))))) else ((den Sp ref04_Check.id [(V.agg [(V.sl .no T_api_Proc a1_0)])] [] none)).bind (fun r18 => (Res.onRet r18 (fun v19 => (V.asTup v19 3 (fun rd20 => (V.asAgg (rd20 0) 2 (fun rd21 => (V.asSl (rd21 0) T_L_api_Var (fun es22 => (V.asSl (rd21 1) T_int (fun es23 => (V.asAgg (rd20 1) 2 (fun rd24 => (V.asInt (rd24 0) .i64 (fun n25 => (V.asInt (rd24 1) .i64 (fun n26 => (V.asInt (rd20 2) .i64 (fun n27 => ((den Sp ref04_Check.id [(V.agg [(V.sl .no T_api_Proc a2_0)])] [] none)).bind (fun r29 => (Res.onRet r29 (fun v30 => (V.asTup v30 3 (fun rd31 => (V.asAgg (rd31 0) 2 (fun rd32 => (V.asSl (rd32 0) T_L_api_Var (fun es33 => (V.asSl (rd32 1) T_int (fun es34 => (V.asAgg (rd31 1) 2 (fun rd35 => (V.asInt (rd35 0) .i64 (fun n36 => (V.asInt (rd35 1) .i64 (fun n37 => (V.asInt (rd31 2) .i64 (fun n38 => (bif (n27 != (0 : Int)) then ((den Sp law12_known.id [] [] none)).bind (fun r41 => (Res.onRet r41 (fun v42 => (V.asBool v42 (fun b43 => (some ⟨(Out.ret (V.bool b43)), [], none⟩)))))) else (bif (n38 != (0 : Int)) then ((den Sp law12_known.id [] [] none)).bind (fun r41 => (Res.onRet r41 (fun v42 => (V.asBool v42 (fun b43 => (some ⟨(Out.ret (V.bool b43)), [], none⟩)))))) else ((den Sp decl_Check.id [(V.agg [(V.sl .no T_api_Pair []), (V.sl .no T_api_Pair []), (V.sl .no T_decl_Keep []), (V.sl .no T_decl_Break []), (V.sl .no T_decl_Watch [])]), (V.agg [(V.sl .no T_api_Proc a1_0)]), (V.agg [(V.sl .no T_api_Proc a2_0)])] [] none)).bind (fun r41 => (Res.onRet r41 (fun v42 => (V.asTup v42 2 (fun rd43 => (V.asAgg (rd43 0) 2 (fun rd44 => (V.asInt (rd44 0) .i64 (fun n45 => (V.asInt (rd44 1) .i64 (fun n46 => (V.asInt (rd43 1) .i64 (fun n47 => ((den Sp law12_own.id [(V.agg [(V.sl .no T_api_Pair a0_0), (V.sl .no T_api_Pair a0_1), (V.sl .no T_parallaxref12_Keep a0_2), (V.sl .no T_parallaxref12_Break a0_3), (V.sl .no T_parallaxref12_Watch a0_4)])] [] none)).bind (fun r49 => (Res.onRet r49 (fun v50 => (V.asAgg v50 5 (fun rd51 => (V.asSl (rd51 0) T_api_Pair (fun es52 => (V.asSl (rd51 1) T_api_Pair (fun es53 => (V.asSl (rd51 2) T_decl_Keep (fun es54 => (V.asSl (rd51 3) T_decl_Break (fun es55 => (V.asSl (rd51 4) T_decl_Watch (fun es56 => ((den Sp decl_Check.id [(V.agg [(V.sl .no T_api_Pair es52), (V.sl .no T_api_Pair es53), (V.sl .no T_decl_Keep es54), (V.sl .no T_decl_Break es55), (V.sl .no T_decl_Watch es56)]), (V.agg [(V.sl .no T_api_Proc a1_0)]), (V.agg [(V.sl .no T_api_Proc a2_0)])] [] none)).bind (fun r57 => (Res.onRet r57 (fun v58 => (V.asTup v58 2 (fun rd59 => (V.asAgg (rd59 0) 2 (fun rd60 => (V.asInt (rd60 0) .i64 (fun n61 => (V.asInt (rd60 1) .i64 (fun n62 => (V.asInt (rd59 1) .i64 (fun n63 => (bif (n47 != (0 : Int)) then (some ⟨(Out.ret (V.bool false)), [], none⟩) else (bif (n63 != (0 : Int)) then ((den Sp law12_known.id [] [] none)).bind (fun r67 => (Res.onRet r67 (fun v68 => (V.asBool v68 (fun b69 => (some ⟨(Out.ret (V.bool b69)), [], none⟩)))))) else ((den Sp law12_own.id [(V.agg [(V.sl .no T_api_Pair a0_0), (V.sl .no T_api_Pair a0_1), (V.sl .no T_parallaxref12_Keep a0_2), (V.sl .no T_parallaxref12_Break a0_3), (V.sl .no T_parallaxref12_Watch a0_4)])] [] none)).bind (fun r67 => (Res.onRet r67 (fun v68 => (V.asAgg v68 5 (fun rd69 => (V.asSl (rd69 0) T_api_Pair (fun es70 => (V.asSl (rd69 1) T_api_Pair (fun es71 => (V.asSl (rd69 2) T_decl_Keep (fun es72 => (V.asSl (rd69 3) T_decl_Break (fun es73 => (V.asSl (rd69 4) T_decl_Watch (fun es74 => ((den Sp ref01_Among.id [(V.int .i64 a4), (V.int .i64 (4 : Int))] [] none)).bind (fun r76 => (Res.onRet r76 (fun v77 => (V.asInt v77 .i64 (fun n78 => (bif (n78 == (0 : Int)) then ((den Sp ref01_Among.id [(V.int .i64 a3), (V.int .i64 (IntKind.wrap .i64 ((es71.length : Int) + (1 : Int))))] [] none)).bind (fun r81 => (Res.onRet r81 (fun v82 => (V.asInt v82 .i64 (fun n83 => (if ((0 : Int) ≤ n83) then (if ((0 ≤ (Int.toNat n83)) ∧ ((Int.toNat n83) ≤ (List.length es71))) then ((den Sp decl_Check.id [(V.agg [(V.sl .no T_api_Pair es70), (V.sl .no T_api_Pair (List.take ((Int.toNat n83) - 0) (List.drop 0 es71))), (V.sl .no T_decl_Keep es72), (V.sl .no T_decl_Break es73), (V.sl .no T_decl_Watch es74)]), (V.agg [(V.sl .no T_api_Proc a1_0)]), (V.agg [(V.sl .no T_api_Proc a2_0)])] [] none)).bind (fun r85 => (Res.onRet r85 (fun v86 => (V.asTup v86 2 (fun rd87 => (V.asAgg (rd87 0) 2 (fun rd88 => (V.asInt (rd88 0) .i64 (fun n89 => (V.asInt (rd88 1) .i64 (fun n90 => (V.asInt (rd87 1) .i64 (fun n91 => (bif (n91 == (0 : Int)) then ((den Sp law12_known.id [] [] none)).bind (fun r93 => (Res.onRet r93 (fun v94 => (V.asBool v94 (fun b95 => (some ⟨(Out.ret (V.bool b95)), [], none⟩)))))) else (some ⟨(Out.ret (V.bool false)), [], none⟩))))))))))))))) else none) else none)))))) else (bif (n78 == (1 : Int)) then ((den Sp ref01_Among.id [(V.int .i64 a3), (V.int .i64 (IntKind.wrap .i64 ((es72.length : Int) + (1 : Int))))] [] none)).bind (fun r82 => (Res.onRet r82 (fun v83 => (V.asInt v83 .i64 (fun n84 => (if ((0 : Int) ≤ n84) then (if (((Int.toNat n84) ≤ (List.length es72)) ∧ ((List.length es72) ≤ (List.length es72))) then ((den Sp decl_Check.id [(V.agg [(V.sl .no T_api_Pair es70), (V.sl .no T_api_Pair es71), (V.sl .no T_decl_Keep (List.take ((List.length es72) - (Int.toNat n84)) (List.drop (Int.toNat n84) es72))), (V.sl .no T_decl_Break es73), (V.sl .no T_decl_Watch es74)]), (V.agg [(V.sl .no T_api_Proc a1_0)]), (V.agg [(V.sl .no T_api_Proc a2_0)])] [] none)).bind (fun r86 => (Res.onRet r86 (fun v87 => (V.asTup v87 2 (fun rd88 => (V.asAgg (rd88 0) 2 (fun rd89 => (V.asInt (rd89 0) .i64 (fun n90 => (V.asInt (rd89 1) .i64 (fun n91 => (V.asInt (rd88 1) .i64 (fun n92 => (bif (n92 == (0 : Int)) then ((den Sp law12_known.id [] [] none)).bind (fun r94 => (Res.onRet r94 (fun v95 => (V.asBool v95 (fun b96 => (some ⟨(Out.ret (V.bool b96)), [], none⟩)))))) else (some ⟨(Out.ret (V.bool false)), [], none⟩))))))))))))))) else none) else none)))))) else (bif (n78 == (2 : Int)) then ((den Sp ref01_Among.id [(V.int .i64 a3), (V.int .i64 (IntKind.wrap .i64 ((es73.length : Int) + (1 : Int))))] [] none)).bind (fun r83 => (Res.onRet r83 (fun v84 => (V.asInt v84 .i64 (fun n85 => (if ((0 : Int) ≤ n85) then (if (((Int.toNat n85) ≤ (List.length es73)) ∧ ((List.length es73) ≤ (List.length es73))) then ((den Sp decl_Check.id [(V.agg [(V.sl .no T_api_Pair es70), (V.sl .no T_api_Pair es71), (V.sl .no T_decl_Keep es72), (V.sl .no T_decl_Break (List.take ((List.length es73) - (Int.toNat n85)) (List.drop (Int.toNat n85) es73))), (V.sl .no T_decl_Watch es74)]), (V.agg [(V.sl .no T_api_Proc a1_0)]), (V.agg [(V.sl .no T_api_Proc a2_0)])] [] none)).bind (fun r87 => (Res.onRet r87 (fun v88 => (V.asTup v88 2 (fun rd89 => (V.asAgg (rd89 0) 2 (fun rd90 => (V.asInt (rd90 0) .i64 (fun n91 => (V.asInt (rd90 1) .i64 (fun n92 => (V.asInt (rd89 1) .i64 (fun n93 => (bif (n93 == (0 : Int)) then ((den Sp law12_known.id [] [] none)).bind (fun r95 => (Res.onRet r95 (fun v96 => (V.asBool v96 (fun b97 => (some ⟨(Out.ret (V.bool b97)), [], none⟩)))))) else (some ⟨(Out.ret (V.bool false)), [], none⟩))))))))))))))) else none) else none)))))) else ((den Sp ref01_Among.id [(V.int .i64 a3), (V.int .i64 (IntKind.wrap .i64 ((es74.length : Int) + (1 : Int))))] [] none)).bind (fun r83 => (Res.onRet r83 (fun v84 => (V.asInt v84 .i64 (fun n85 => (if ((0 : Int) ≤ n85) then (if ((0 ≤ (Int.toNat n85)) ∧ ((Int.toNat n85) ≤ (List.length es74))) then ((den Sp decl_Check.id [(V.agg [(V.sl .no T_api_Pair es70), (V.sl .no T_api_Pair es71), (V.sl .no T_decl_Keep es72), (V.sl .no T_decl_Break es73), (V.sl .no T_decl_Watch (List.take ((Int.toNat n85) - 0) (List.drop 0 es74)))]), (V.agg [(V.sl .no T_api_Proc a1_0)]), (V.agg [(V.sl .no T_api_Proc a2_0)])] [] none)).bind (fun r87 => (Res.onRet r87 (fun v88 => (V.asTup v88 2 (fun rd89 => (V.asAgg (rd89 0) 2 (fun rd90 => (V.asInt (rd90 0) .i64 (fun n91 => (V.asInt (rd90 1) .i64 (fun n92 => (V.asInt (rd89 1) .i64 (fun n93 => (bif (n93 == (0 : Int)) then ((den Sp law12_known.id [] [] none)).bind (fun r95 => (Res.onRet r95 (fun v96 => (V.asBool v96 (fun b97 => (some ⟨(Out.ret (V.bool b97)), [], none⟩)))))) else (some ⟨(Out.ret (V.bool false)), [], none⟩))))))))))))))) else none) else none)))))))))))))))))))))))))))))))))))))))))))))))))))))))))))))))))))))))))))))))))))))))))))))))))))))))))))))))))))))))))))) := (den_eq ..).trans (by kernel_rfl)
end law12_DeclLess
end Go.Proofs.YtmhnmelaodhemaaGreatDoor
namespace Go.Proofs.YtmhnmelaodhemaaGreatDoor
open Go Go.Proofs.Ab Go.Proofs.Px
set_option linter.unusedVariables false
set_option linter.unusedSimpArgs false
set_option maxRecDepth 100000
theorem declLess_den (x0 : List V) (h0 : Fits Sp.P Sp.pz T_parallaxref12_File x0) (x1 : List V) (h1 : Fits Sp.P Sp.pz T_api_Prog x1) (x2 : List V) (h2 : Fits Sp.P Sp.pz T_api_Prog x2) (which : Int) (w3 : (Lit.int .i64 which).wf = true) (kind : Int) (w4 : (Lit.int .i64 kind).wf = true) :
    den Sp law12_DeclLess.id [.agg x0, .agg x1, .agg x2, .int .i64 which, .int .i64 kind] [] none = some ⟨.ret (.bool true), [], none⟩ := by
  obtain ⟨f, rfl, hf⟩ := Fl_in h0
  obtain ⟨⟨a⟩, rfl, ha⟩ := Prg_in h1
  obtain ⟨⟨b⟩, rfl, hb⟩ := Prg_in h2
  have oka := ha.procs
  have okb := hb.procs
  simp only at oka okb
  obtain ⟨g, g1, g2⟩ := law12_great_is f hf
  obtain ⟨w, w1, w2⟩ := law12_wide_is a b oka.1 okb.1 oka.2 okb.2
  rw [Prg.v_mk, Prg.v_mk, Fl.v, law12_DeclLess.eq, law12_known_is]
  rw [Fl.v] at g1
  rw [g1]
  cases g with
  | true => simp
  | false =>
    rw [w1]
    cases w with
    | true => simp
    | false =>
      have hsf := (g2 rfl).small hf
      obtain ⟨sa, sb⟩ := w2 rfl
      have hsa : Smalls a := Smalls.of (by omega)
      have hsb : Smalls b := Smalls.of (by omega)
      have ho := law12_own_is f hsf
      have hc := fun f hsf => decl_Check_is f a b hsa hsb hsf oka.2 okb.2 (by omega) (by omega)
      have ca := ref04_Check_is a oka.2 (by omega)
      have cb := ref04_Check_is b okb.2 (by omega)
      unfold checkR at ca cb
      rw [Fl.v] at ho
      unfold Fl.ov at ho
      have hnil : SmallF ⟨[], [], [], [], []⟩ := ⟨by simp, by simp, by simp, by simp, by simp, nofun, nofun⟩
      by_cases ea : (checkP a).2.2 = 0
      · by_cases eb : (checkP b).2.2 = 0
        · have c0 := hc _ hnil
          have en : (fileE ⟨[], [], [], [], []⟩ a b).2.2 = 0 := file_fit.2 ⟨ea, eb, FitsE.nil⟩
          simp only [List.map_nil] at c0
          have cf := hc f hsf
          simp only [ea, eb, if_true] at ca cb
          unfold infoV at ca cb
          unfold toldE at c0 cf
          rw [en] at c0
          simp only [cond_false, Option.bind_some, onRet_ret, asBool_bool, ca, cb, asTup_3, asAgg_2, List.getD_cons_zero, List.getD_cons_succ, asSl_sl, asInt_int, bne_self_eq_false, c0, asTup_2, ho, asAgg_5, cf]
          by_cases he : (fileE f a b).2.2 = 0
          · obtain ⟨_, _, e3⟩ := file_fit.1 he
            have hk := ref01_Among_is kind 4 (by omega) (by omega)
            have hs1 := hsf.sames
            have hs2 := hsf.keeps
            have hs3 := hsf.breaks
            have hs4 := hsf.watches
            have k1 := ref01_Among_is which ((f.sames.length : Int) + 1) (by omega) (by omega)
            have k2 := ref01_Among_is which ((f.keeps.length : Int) + 1) (by omega) (by omega)
            have k3 := ref01_Among_is which ((f.breaks.length : Int) + 1) (by omega) (by omega)
            have k4 := ref01_Among_is which ((f.watches.length : Int) + 1) (by omega) (by omega)
            have m1 := Int.emod_nonneg which (show ((f.sames.length : Int) + 1) ≠ 0 by omega)
            have n1 := Int.emod_lt_of_pos which (show 0 < (f.sames.length : Int) + 1 by omega)
            have m2 := Int.emod_nonneg which (show ((f.keeps.length : Int) + 1) ≠ 0 by omega)
            have n2 := Int.emod_lt_of_pos which (show 0 < (f.keeps.length : Int) + 1 by omega)
            have m3 := Int.emod_nonneg which (show ((f.breaks.length : Int) + 1) ≠ 0 by omega)
            have n3 := Int.emod_lt_of_pos which (show 0 < (f.breaks.length : Int) + 1 by omega)
            have m4 := Int.emod_nonneg which (show ((f.watches.length : Int) + 1) ≠ 0 by omega)
            have n4 := Int.emod_lt_of_pos which (show 0 < (f.watches.length : Int) + 1 by omega)
            have wr1 : IntKind.wrap .i64 ((f.sames.length : Int) + 1) = (f.sames.length : Int) + 1 := wrap_in (by omega) (by omega)
            have wr2 : IntKind.wrap .i64 ((f.keeps.length : Int) + 1) = (f.keeps.length : Int) + 1 := wrap_in (by omega) (by omega)
            have wr3 : IntKind.wrap .i64 ((f.breaks.length : Int) + 1) = (f.breaks.length : Int) + 1 := wrap_in (by omega) (by omega)
            have wr4 : IntKind.wrap .i64 ((f.watches.length : Int) + 1) = (f.watches.length : Int) + 1 := wrap_in (by omega) (by omega)
            simp only [he, bne_self_eq_false, cond_false, Option.bind_some, onRet_ret, asInt_int, hk, List.length_map, wr1, wr2, wr3, wr4, k1, k2, k3, k4]
            generalize which % ((f.sames.length : Int) + 1) = q1 at m1 n1 ⊢
            generalize which % ((f.keeps.length : Int) + 1) = q2 at m2 n2 ⊢
            generalize which % ((f.breaks.length : Int) + 1) = q3 at m3 n3 ⊢
            generalize which % ((f.watches.length : Int) + 1) = q4 at m4 n4 ⊢
            have ask : ∀ f2 : Fl, SmallF f2 → FitsE f2 a b → ∃ t : Int × Int × Int, den Sp decl_Check.id [.agg [.sl .no T_api_Pair (f2.pairs.map Pai.v), .sl .no T_api_Pair (f2.sames.map Pai.v), .sl .no T_decl_Keep (f2.keeps.map Kp.v), .sl .no T_decl_Break (f2.breaks.map Bk.v), .sl .no T_decl_Watch (f2.watches.map Wt.v)], .agg [.sl .no T_api_Proc (a.map Prc.v)], .agg [.sl .no T_api_Proc (b.map Prc.v)]] [] none = some ⟨.ret (.tup [.agg [.int .i64 t.1, .int .i64 t.2.1], .int .i64 0]), [], none⟩ := fun f2 h2 h3 => by
              have := hc f2 h2
              unfold toldE at this
              rw [file_fit.2 ⟨ea, eb, h3⟩] at this
              exact ⟨_, this⟩
            by_cases d0 : kind % 4 = 0
            · obtain ⟨t, ht⟩ := ask ⟨f.pairs, f.sames.take q1.toNat, f.keeps, f.breaks, f.watches⟩ ⟨hsf.pairs, by rw [List.length_take]; omega, hs2, hs3, hs4, hsf.whn, hsf.mark⟩ (e3.less (fun p hp => List.mem_of_mem_take hp) (fun _ h => h) (fun _ h => h) (fun _ h => h))
              simp only [List.map_take] at ht
              simp only [d0, beq_self_eq_true, cond_true, if_pos m1, if_pos (show 0 ≤ q1.toNat ∧ q1.toNat ≤ f.sames.length by omega), Nat.sub_zero, List.drop_zero, ht, Option.bind_some, onRet_ret, asTup_2, asAgg_2, List.getD_cons_zero, List.getD_cons_succ, asInt_int, asBool_bool]
            · by_cases d1 : kind % 4 = 1
              · obtain ⟨t, ht⟩ := ask ⟨f.pairs, f.sames, f.keeps.drop q2.toNat, f.breaks, f.watches⟩ ⟨hsf.pairs, hs1, by rw [List.length_drop]; omega, hs3, hs4, hsf.whn, hsf.mark⟩ (e3.less (fun _ h => h) (fun p hp => List.mem_of_mem_drop hp) (fun _ h => h) (fun _ h => h))
                simp only [List.map_drop] at ht
                have et : List.take (f.keeps.length - q2.toNat) (List.drop q2.toNat (f.keeps.map Kp.v)) = List.drop q2.toNat (f.keeps.map Kp.v) := List.take_of_length_le (by rw [List.length_drop, List.length_map]; omega)
                simp only [d1, beq_self_eq_true, cond_true, show ((1 : Int) == 0) = false from rfl, cond_false, if_pos m2, if_pos (show q2.toNat ≤ f.keeps.length ∧ f.keeps.length ≤ f.keeps.length by omega), et, ht, Option.bind_some, onRet_ret, asTup_2, asAgg_2, List.getD_cons_zero, List.getD_cons_succ, asInt_int, asBool_bool]
              · by_cases d2 : kind % 4 = 2
                · obtain ⟨t, ht⟩ := ask ⟨f.pairs, f.sames, f.keeps, f.breaks.drop q3.toNat, f.watches⟩ ⟨hsf.pairs, hs1, hs2, by rw [List.length_drop]; omega, hs4, fun x hx => hsf.whn x (List.mem_of_mem_drop hx), fun x hx => hsf.mark x (List.mem_of_mem_drop hx)⟩ (e3.less (fun _ h => h) (fun _ h => h) (fun p hp => List.mem_of_mem_drop hp) (fun _ h => h))
                  simp only [List.map_drop] at ht
                  have et : List.take (f.breaks.length - q3.toNat) (List.drop q3.toNat (f.breaks.map Bk.v)) = List.drop q3.toNat (f.breaks.map Bk.v) := List.take_of_length_le (by rw [List.length_drop, List.length_map]; omega)
                  simp only [d2, beq_self_eq_true, cond_true, show ((2 : Int) == 0) = false from rfl, show ((2 : Int) == 1) = false from rfl, cond_false, if_pos m3, if_pos (show q3.toNat ≤ f.breaks.length ∧ f.breaks.length ≤ f.breaks.length by omega), et, ht, Option.bind_some, onRet_ret, asTup_2, asAgg_2, List.getD_cons_zero, List.getD_cons_succ, asInt_int, asBool_bool]
                · obtain ⟨t, ht⟩ := ask ⟨f.pairs, f.sames, f.keeps, f.breaks, f.watches.take q4.toNat⟩ ⟨hsf.pairs, hs1, hs2, hs3, by rw [List.length_take]; omega, hsf.whn, hsf.mark⟩ (e3.less (fun _ h => h) (fun _ h => h) (fun _ h => h) (fun p hp => List.mem_of_mem_take hp))
                  simp only [List.map_take] at ht
                  simp only [beq_eq_false_iff_ne.2 d0, beq_eq_false_iff_ne.2 d1, beq_eq_false_iff_ne.2 d2, cond_false, if_pos m4, if_pos (show 0 ≤ q4.toNat ∧ q4.toNat ≤ f.watches.length by omega), Nat.sub_zero, List.drop_zero, ht, Option.bind_some, onRet_ret, asTup_2, asAgg_2, List.getD_cons_zero, List.getD_cons_succ, asInt_int, asBool_bool, beq_self_eq_true, cond_true]
          · simp [he]
        · simp only [ea, eb, if_true, if_false] at ca cb
          unfold infoV at ca cb
          simp [ca, cb, eb]
      · simp only [ea, if_false] at ca
        unfold infoV at ca
        by_cases eb : (checkP b).2.2 = 0
        · simp only [eb, if_true] at cb
          unfold infoV at cb
          simp [ca, cb, ea]
        · simp only [eb, if_false] at cb
          unfold infoV at cb
          simp [ca, cb, ea]
end Go.Proofs.YtmhnmelaodhemaaGreatDoor
