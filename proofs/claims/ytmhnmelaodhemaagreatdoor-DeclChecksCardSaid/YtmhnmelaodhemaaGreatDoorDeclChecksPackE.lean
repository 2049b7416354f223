/- Own texts under the law DeclChecks, merged, without what it does not lean on: part 5 of 7 (the abstract machine and its proof; residual forms; contracts; the plain law). -/
import Derived.Test.YtmhnmelaodhemaaGreatDoorDeclChecksPackD
namespace Go.Proofs.YtmhnmelaodhemaaGreatDoor
open Go Go.Proofs.Ab
set_option maxRecDepth 100000
set_option linter.unusedVariables false
namespace ref04_Find
noncomputable abbrev e (p : List Nat) := ev Sp (den Sp) id Tryz.f143.ntmps (cAt (bodyOf Tryz.f143) p)
noncomputable abbrev cn (n0 : List Nat) := canon Sp id n0
noncomputable abbrev K : K := kFin Sp (den Sp) Tryz.f143 0
noncomputable def L1_0_1_0 (l0 : List (List V)) (s1 : ByteArray) (i2 i3 : Int) : Option Res := LP (e [1, 0, 1, 0, 0]) (cn []) (kBlk 0 (kSeq (e [1, 1]) (K))) ([(0, (V.sl .no T_api_Var l0)), (1, (V.str s1)), (2, (V.int .i64 i2)), (7, (V.int .i64 i3))], ⟨[], [], [], [], none⟩)
theorem L1_0_1_0_eq (l0 : List (List V)) (s1 : ByteArray) (i2 i3 : Int) : L1_0_1_0 l0 s1 i2 i3 =
    (bif (decide (i3 < (l0.length : Int))) then (if (((0 : Int) ≤ i3) ∧ (i3 < (l0.length : Int))) then (V.asStr (List.getD (List.getD l0 (Int.toNat i3) []) 0 V.undef) (fun s11 => (bif (decide (s11 = s1)) then (if (((0 : Int) ≤ i3) ∧ (i3 < (l0.length : Int))) then (V.asInt (List.getD (List.getD l0 (Int.toNat i3) []) 3 V.undef) .i64 (fun n12 => (bif (decide (i2 ≥ n12)) then (if (((0 : Int) ≤ i3) ∧ (i3 < (l0.length : Int))) then (V.asInt (List.getD (List.getD l0 (Int.toNat i3) []) 4 V.undef) .i64 (fun n13 => (bif (decide (i2 ≤ n13)) then (some ⟨(Out.ret (V.int .i64 i3)), [], none⟩) else (L1_0_1_0 l0 s1 i2 (IntKind.wrap .i64 (i3 + (1 : Int))))))) else none) else (L1_0_1_0 l0 s1 i2 (IntKind.wrap .i64 (i3 + (1 : Int))))))) else none) else (L1_0_1_0 l0 s1 i2 (IntKind.wrap .i64 (i3 + (1 : Int))))))) else none) else (some ⟨(Out.ret (V.int .i64 (Neg.neg (1 : Int)))), [], none⟩)) := (LP_eq ..).trans (by kernel_rfl)
theorem eq (a0 : List (List V)) (a1 : ByteArray) (a2 : Int) : den Sp id [(V.sl .no T_api_Var a0), (V.str a1), (V.int .i64 a2)] [] none =
    (L1_0_1_0 a0 a1 a2 (0 : Int)) := (den_eq ..).trans (by kernel_rfl)
end ref04_Find
namespace ref04_one
noncomputable abbrev e (p : List Nat) := ev Sp (den Sp) id Tryz.f145.ntmps (cAt (bodyOf Tryz.f145) p)
noncomputable abbrev cn (n0 : List Nat) := canon Sp id n0
noncomputable abbrev K : K := kFin Sp (den Sp) Tryz.f145 0
theorem eq (a0 : ByteArray) : den Sp id [(V.str a0)] [] none =
    (bif (decide (a0 = (ByteArray.mk #[43]))) then (some ⟨(Out.ret (V.tup [(V.int .i64 (1 : Int)), (V.int .i64 (1 : Int))])), [], none⟩) else (bif (decide (a0 = (ByteArray.mk #[45]))) then (some ⟨(Out.ret (V.tup [(V.int .i64 (1 : Int)), (V.int .i64 (1 : Int))])), [], none⟩) else (bif (decide (a0 = (ByteArray.mk #[42]))) then (some ⟨(Out.ret (V.tup [(V.int .i64 (1 : Int)), (V.int .i64 (1 : Int))])), [], none⟩) else (bif (decide (a0 = (ByteArray.mk #[47]))) then (some ⟨(Out.ret (V.tup [(V.int .i64 (1 : Int)), (V.int .i64 (1 : Int))])), [], none⟩) else (bif (decide (a0 = (ByteArray.mk #[37]))) then (some ⟨(Out.ret (V.tup [(V.int .i64 (1 : Int)), (V.int .i64 (1 : Int))])), [], none⟩) else (bif (decide (a0 = (ByteArray.mk #[60]))) then (some ⟨(Out.ret (V.tup [(V.int .i64 (1 : Int)), (V.int .i64 (2 : Int))])), [], none⟩) else (bif (decide (a0 = (ByteArray.mk #[60, 61]))) then (some ⟨(Out.ret (V.tup [(V.int .i64 (1 : Int)), (V.int .i64 (2 : Int))])), [], none⟩) else (bif (decide (a0 = (ByteArray.mk #[38, 38]))) then (some ⟨(Out.ret (V.tup [(V.int .i64 (2 : Int)), (V.int .i64 (2 : Int))])), [], none⟩) else (bif (decide (a0 = (ByteArray.mk #[124, 124]))) then (some ⟨(Out.ret (V.tup [(V.int .i64 (2 : Int)), (V.int .i64 (2 : Int))])), [], none⟩) else (bif (decide (a0 = (ByteArray.mk #[61, 61]))) then (some ⟨(Out.ret (V.tup [(V.int .i64 (3 : Int)), (V.int .i64 (2 : Int))])), [], none⟩) else (bif (decide (a0 = (ByteArray.mk #[33, 61]))) then (some ⟨(Out.ret (V.tup [(V.int .i64 (3 : Int)), (V.int .i64 (2 : Int))])), [], none⟩) else (some ⟨(Out.ret (V.tup [(V.int .i64 (0 : Int)), (V.int .i64 (0 : Int))])), [], none⟩)))))))))))) := (den_eq ..).trans (by kernel_rfl)
end ref04_one
namespace ref04_TypeOf
noncomputable abbrev e (p : List Nat) := ev Sp (den Sp) id Tryz.f99.ntmps (cAt (bodyOf Tryz.f99) p)
noncomputable abbrev cn (n0 : List Nat) := canon Sp id n0
noncomputable abbrev K : K := kFin Sp (den Sp) Tryz.f99 0
noncomputable def J1_1_0_1_0_0 (l0 : List (List V)) (i1 i2 : Int) (s3 : ByteArray) (i4 : Int) (l5 : List (List V)) : Option Res := joinAt Sp (den Sp) id Tryz.f99.ntmps (cAt (bodyOf Tryz.f99) [1, 1, 0, 1, 0, 0]) (kSeq (e [1, 1, 0, 1, 0, 1]) (kSeq (e [1, 1, 1]) (K))) ([(1, (V.sl .no T_api_Var l0)), (2, (V.int .i64 i1)), (3, (V.ref 1003 0)), (9, V.undef), (10, V.undef), (15, V.undef)], ⟨[(1003, (Blk.cells T_api_Expr [(V.int .i64 i2), (V.str s3), (V.int .i64 i4), (V.sl .no T_api_Expr l5)] false))], [], [], [], none⟩)
noncomputable def J1_1_1_0_0 (l0 : List (List V)) (i1 i2 : Int) (s3 : ByteArray) (i4 : Int) (l5 : List (List V)) : Option Res := joinAt Sp (den Sp) id Tryz.f99.ntmps (cAt (bodyOf Tryz.f99) [1, 1, 1, 0, 0]) (kSeq (e [1, 1, 1, 0, 1]) (kSeq (e [1, 1, 1, 1]) (K))) ([(1, (V.sl .no T_api_Var l0)), (2, (V.int .i64 i1)), (3, (V.ref 1003 0)), (9, V.undef), (10, V.undef), (15, V.undef)], ⟨[(1003, (Blk.cells T_api_Expr [(V.int .i64 i2), (V.str s3), (V.int .i64 i4), (V.sl .no T_api_Expr l5)] false))], [], [], [], none⟩)
noncomputable def J1_1_1_0_1_0_0 (l0 : List (List V)) (i1 i2 : Int) (s3 : ByteArray) (i4 : Int) (l5 : List (List V)) : Option Res := joinAt Sp (den Sp) id Tryz.f99.ntmps (cAt (bodyOf Tryz.f99) [1, 1, 1, 0, 1, 0, 0]) (kSeq (e [1, 1, 1, 0, 1, 0, 1]) (kSeq (e [1, 1, 1, 1]) (K))) ([(1, (V.sl .no T_api_Var l0)), (2, (V.int .i64 i1)), (3, (V.ref 1003 0)), (9, V.undef), (10, V.undef), (15, V.undef)], ⟨[(1003, (Blk.cells T_api_Expr [(V.int .i64 i2), (V.str s3), (V.int .i64 i4), (V.sl .no T_api_Expr l5)] false))], [], [], [], none⟩)
noncomputable def J1_1_1_1_0_0 (l0 : List (List V)) (i1 i2 : Int) (s3 : ByteArray) (i4 : Int) (l5 : List (List V)) : Option Res := joinAt Sp (den Sp) id Tryz.f99.ntmps (cAt (bodyOf Tryz.f99) [1, 1, 1, 1, 0, 0]) (kSeq (e [1, 1, 1, 1, 0, 1]) (kSeq (e [1, 1, 1, 1, 1]) (K))) ([(1, (V.sl .no T_api_Var l0)), (2, (V.int .i64 i1)), (3, (V.ref 1003 0)), (9, V.undef), (10, V.undef), (15, V.undef)], ⟨[(1003, (Blk.cells T_api_Expr [(V.int .i64 i2), (V.str s3), (V.int .i64 i4), (V.sl .no T_api_Expr l5)] false))], [], [], [], none⟩)
noncomputable def J1_1_1_1_1_1_0_1_0_1_1_0_1_0_0 (l0 : List (List V)) (i1 i2 i3 : Int) (s4 : ByteArray) (i5 : Int) (l6 : List (List V)) : Option Res := joinAt Sp (den Sp) id Tryz.f99.ntmps (cAt (bodyOf Tryz.f99) [1, 1, 1, 1, 1, 1, 0, 1, 0, 1, 1, 0, 1, 0, 0]) (kSeq (e [1, 1, 1, 1, 1, 1, 0, 1, 0, 1, 1, 0, 1, 0, 1]) (kSeq (e [1, 1, 1, 1, 1, 1, 0, 1, 0, 1, 1, 1]) (kSeq (e [1, 1, 1, 1, 1, 1, 1]) (K)))) ([(1, (V.sl .no T_api_Var l0)), (2, (V.int .i64 i1)), (3, (V.ref 1003 0)), (9, (V.int .i64 i2)), (10, V.undef), (15, V.undef)], ⟨[(1003, (Blk.cells T_api_Expr [(V.int .i64 i3), (V.str s4), (V.int .i64 i5), (V.sl .no T_api_Expr l6)] false))], [], [], [], none⟩)
noncomputable def J1_1_1_1_1_1_0_1_0_1_1_1_0_0 (l0 : List (List V)) (i1 i2 i3 : Int) (s4 : ByteArray) (i5 : Int) (l6 : List (List V)) : Option Res := joinAt Sp (den Sp) id Tryz.f99.ntmps (cAt (bodyOf Tryz.f99) [1, 1, 1, 1, 1, 1, 0, 1, 0, 1, 1, 1, 0, 0]) (kSeq (e [1, 1, 1, 1, 1, 1, 0, 1, 0, 1, 1, 1, 0, 1]) (kSeq (e [1, 1, 1, 1, 1, 1, 0, 1, 0, 1, 1, 1, 1]) (kSeq (e [1, 1, 1, 1, 1, 1, 1]) (K)))) ([(1, (V.sl .no T_api_Var l0)), (2, (V.int .i64 i1)), (3, (V.ref 1003 0)), (9, (V.int .i64 i2)), (10, V.undef), (15, V.undef)], ⟨[(1003, (Blk.cells T_api_Expr [(V.int .i64 i3), (V.str s4), (V.int .i64 i5), (V.sl .no T_api_Expr l6)] false))], [], [], [], none⟩)
noncomputable def J1_1_1_1_1_1_1_1_1_0_1_0_0_1_0_0 (l0 : List (List V)) (i1 i2 i3 : Int) (s4 : ByteArray) (i5 : Int) (l6 : List (List V)) : Option Res := joinAt Sp (den Sp) id Tryz.f99.ntmps (cAt (bodyOf Tryz.f99) [1, 1, 1, 1, 1, 1, 1, 1, 1, 0, 1, 0, 0, 1, 0, 0]) (kSeq (e [1, 1, 1, 1, 1, 1, 1, 1, 1, 0, 1, 0, 0, 1, 0, 1]) (kSeq (e [1, 1, 1, 1, 1, 1, 1, 1, 1, 0, 1, 0, 1]) (kSeq (e [1, 1, 1, 1, 1, 1, 1, 1, 1, 1]) (K)))) ([(1, (V.sl .no T_api_Var l0)), (2, (V.int .i64 i1)), (3, (V.ref 1003 0)), (9, V.undef), (10, (V.int .i64 i2)), (15, V.undef)], ⟨[(1003, (Blk.cells T_api_Expr [(V.int .i64 i3), (V.str s4), (V.int .i64 i5), (V.sl .no T_api_Expr l6)] false))], [], [], [], none⟩)
noncomputable def J1_1_1_1_1_1_1_1_1_0_1_0_1_0_0 (l0 : List (List V)) (i1 i2 i3 : Int) (s4 : ByteArray) (i5 : Int) (l6 : List (List V)) : Option Res := joinAt Sp (den Sp) id Tryz.f99.ntmps (cAt (bodyOf Tryz.f99) [1, 1, 1, 1, 1, 1, 1, 1, 1, 0, 1, 0, 1, 0, 0]) (kSeq (e [1, 1, 1, 1, 1, 1, 1, 1, 1, 0, 1, 0, 1, 0, 1]) (kSeq (e [1, 1, 1, 1, 1, 1, 1, 1, 1, 0, 1, 0, 1, 1]) (kSeq (e [1, 1, 1, 1, 1, 1, 1, 1, 1, 1]) (K)))) ([(1, (V.sl .no T_api_Var l0)), (2, (V.int .i64 i1)), (3, (V.ref 1003 0)), (9, V.undef), (10, (V.int .i64 i2)), (15, V.undef)], ⟨[(1003, (Blk.cells T_api_Expr [(V.int .i64 i3), (V.str s4), (V.int .i64 i5), (V.sl .no T_api_Expr l6)] false))], [], [], [], none⟩)
noncomputable def J1_1_1_1_1_1_1_1_1_0_1_0_1_0_1_0_0 (l0 : List (List V)) (i1 i2 i3 : Int) (s4 : ByteArray) (i5 : Int) (l6 : List (List V)) : Option Res := joinAt Sp (den Sp) id Tryz.f99.ntmps (cAt (bodyOf Tryz.f99) [1, 1, 1, 1, 1, 1, 1, 1, 1, 0, 1, 0, 1, 0, 1, 0, 0]) (kSeq (e [1, 1, 1, 1, 1, 1, 1, 1, 1, 0, 1, 0, 1, 0, 1, 0, 1]) (kSeq (e [1, 1, 1, 1, 1, 1, 1, 1, 1, 0, 1, 0, 1, 1]) (kSeq (e [1, 1, 1, 1, 1, 1, 1, 1, 1, 1]) (K)))) ([(1, (V.sl .no T_api_Var l0)), (2, (V.int .i64 i1)), (3, (V.ref 1003 0)), (9, V.undef), (10, (V.int .i64 i2)), (15, V.undef)], ⟨[(1003, (Blk.cells T_api_Expr [(V.int .i64 i3), (V.str s4), (V.int .i64 i5), (V.sl .no T_api_Expr l6)] false))], [], [], [], none⟩)
noncomputable def J1_1_1_1_1_1_1_1_1_0_1_0_1_1_0 (l0 : List (List V)) (i1 i2 i3 : Int) (s4 : ByteArray) (i5 : Int) (l6 : List (List V)) : Option Res := joinAt Sp (den Sp) id Tryz.f99.ntmps (cAt (bodyOf Tryz.f99) [1, 1, 1, 1, 1, 1, 1, 1, 1, 0, 1, 0, 1, 1, 0]) (kSeq (e [1, 1, 1, 1, 1, 1, 1, 1, 1, 0, 1, 0, 1, 1, 1]) (kSeq (e [1, 1, 1, 1, 1, 1, 1, 1, 1, 1]) (K))) ([(1, (V.sl .no T_api_Var l0)), (2, (V.int .i64 i1)), (3, (V.ref 1003 0)), (9, V.undef), (10, (V.int .i64 i2)), (15, V.undef)], ⟨[(1003, (Blk.cells T_api_Expr [(V.int .i64 i3), (V.str s4), (V.int .i64 i5), (V.sl .no T_api_Expr l6)] false))], [], [], [], none⟩)
noncomputable def J1_1_1_1_1_1_1_1_1_1_1_1_1_1_0_1_0_0 (l0 : List (List V)) (i1 i2 i3 i4 : Int) (s5 : ByteArray) (i6 : Int) (l7 : List (List V)) : Option Res := joinAt Sp (den Sp) id Tryz.f99.ntmps (cAt (bodyOf Tryz.f99) [1, 1, 1, 1, 1, 1, 1, 1, 1, 1, 1, 1, 1, 1, 0, 1, 0, 0]) (kSeq (e [1, 1, 1, 1, 1, 1, 1, 1, 1, 1, 1, 1, 1, 1, 0, 1, 0, 1]) (kSeq (e [1, 1, 1, 1, 1, 1, 1, 1, 1, 1, 1, 1, 1, 1, 1]) (K))) ([(1, (V.sl .no T_api_Var l0)), (2, (V.int .i64 i1)), (3, (V.ref 1003 0)), (9, V.undef), (10, (V.int .i64 i2)), (15, (V.int .i64 i3))], ⟨[(1003, (Blk.cells T_api_Expr [(V.int .i64 i4), (V.str s5), (V.int .i64 i6), (V.sl .no T_api_Expr l7)] false))], [], [], [], none⟩)
noncomputable def J1_1_1_1_1_1_1_1_1_1_1_1_1_1_1_0 (l0 : List (List V)) (i1 i2 i3 i4 : Int) (s5 : ByteArray) (i6 : Int) (l7 : List (List V)) : Option Res := joinAt Sp (den Sp) id Tryz.f99.ntmps (cAt (bodyOf Tryz.f99) [1, 1, 1, 1, 1, 1, 1, 1, 1, 1, 1, 1, 1, 1, 1, 0]) (kSeq (e [1, 1, 1, 1, 1, 1, 1, 1, 1, 1, 1, 1, 1, 1, 1, 1]) (K)) ([(1, (V.sl .no T_api_Var l0)), (2, (V.int .i64 i1)), (3, (V.ref 1003 0)), (9, V.undef), (10, (V.int .i64 i2)), (15, (V.int .i64 i3))], ⟨[(1003, (Blk.cells T_api_Expr [(V.int .i64 i4), (V.str s5), (V.int .i64 i6), (V.sl .no T_api_Expr l7)] false))], [], [], [], none⟩)
theorem J1_1_0_1_0_0_eq (l0 : List (List V)) (i1 i2 : Int) (s3 : ByteArray) (i4 : Int) (l5 : List (List V)) : J1_1_0_1_0_0 l0 i1 i2 s3 i4 l5 =
    (some ⟨(Out.ret (V.tup [(V.int .i64 (0 : Int)), (V.int .i64 (32 : Int))])), [], none⟩) := (joinAt_eq ..).trans (by kernel_rfl)
theorem J1_1_1_0_0_eq (l0 : List (List V)) (i1 i2 : Int) (s3 : ByteArray) (i4 : Int) (l5 : List (List V)) : J1_1_1_0_0 l0 i1 i2 s3 i4 l5 =
    (bif (i2 == (1 : Int)) then (bif (decide (i4 < (0 : Int))) then (J1_1_1_0_1_0_0 l0 i1 i2 s3 i4 l5) else (bif (i2 == (2 : Int)) then (bif (i4 != (0 : Int)) then (bif (i4 != (1 : Int)) then (J1_1_1_0_1_0_0 l0 i1 i2 s3 i4 l5) else (J1_1_1_1_0_0 l0 i1 i2 s3 i4 l5)) else (J1_1_1_1_0_0 l0 i1 i2 s3 i4 l5)) else (J1_1_1_1_0_0 l0 i1 i2 s3 i4 l5))) else (bif (i2 == (2 : Int)) then (bif (i4 != (0 : Int)) then (bif (i4 != (1 : Int)) then (J1_1_1_0_1_0_0 l0 i1 i2 s3 i4 l5) else (J1_1_1_1_0_0 l0 i1 i2 s3 i4 l5)) else (J1_1_1_1_0_0 l0 i1 i2 s3 i4 l5)) else (J1_1_1_1_0_0 l0 i1 i2 s3 i4 l5))) := (joinAt_eq ..).trans (by kernel_rfl)
theorem J1_1_1_0_1_0_0_eq (l0 : List (List V)) (i1 i2 : Int) (s3 : ByteArray) (i4 : Int) (l5 : List (List V)) : J1_1_1_0_1_0_0 l0 i1 i2 s3 i4 l5 =
    (some ⟨(Out.ret (V.tup [(V.int .i64 (0 : Int)), (V.int .i64 (32 : Int))])), [], none⟩) := (joinAt_eq ..).trans (by kernel_rfl)
theorem J1_1_1_1_0_0_eq (l0 : List (List V)) (i1 i2 : Int) (s3 : ByteArray) (i4 : Int) (l5 : List (List V)) : J1_1_1_1_0_0 l0 i1 i2 s3 i4 l5 =
    (bif (i2 == (1 : Int)) then (some ⟨(Out.ret (V.tup [(V.int .i64 (1 : Int)), (V.int .i64 (0 : Int))])), [], none⟩) else (bif (i2 == (2 : Int)) then (some ⟨(Out.ret (V.tup [(V.int .i64 (2 : Int)), (V.int .i64 (0 : Int))])), [], none⟩) else (bif (i2 == (3 : Int)) then ((den Sp ref04_Find.id [(V.sl .no T_api_Var l0), (V.str s3), (V.int .i64 i1)] [] none)).bind (fun r27 => (Res.onRet r27 (fun v28 => (V.asInt v28 .i64 (fun n29 => (bif (decide (n29 < (0 : Int))) then (some ⟨(Out.ret (V.tup [(V.int .i64 (0 : Int)), (V.int .i64 (40 : Int))])), [], none⟩) else (if (((0 : Int) ≤ n29) ∧ (n29 < (l0.length : Int))) then (V.asInt (List.getD (List.getD l0 (Int.toNat n29) []) 2 V.undef) .i64 (fun n32 => (bif (!((decide (n32 > (0 : Int))) == (i2 == (4 : Int)))) then (J1_1_1_1_1_1_0_1_0_1_1_0_1_0_0 l0 i1 n29 i2 s3 i4 l5) else (if (((0 : Int) ≤ n29) ∧ (n29 < (l0.length : Int))) then (V.asInt (List.getD (List.getD l0 (Int.toNat n29) []) 2 V.undef) .i64 (fun n33 => (bif (decide (n33 < (0 : Int))) then (bif (i2 == (3 : Int)) then (J1_1_1_1_1_1_0_1_0_1_1_0_1_0_0 l0 i1 n29 i2 s3 i4 l5) else (J1_1_1_1_1_1_0_1_0_1_1_1_0_0 l0 i1 n29 i2 s3 i4 l5)) else (J1_1_1_1_1_1_0_1_0_1_1_1_0_0 l0 i1 n29 i2 s3 i4 l5)))) else none)))) else none))))))) else (bif (i2 == (4 : Int)) then ((den Sp ref04_Find.id [(V.sl .no T_api_Var l0), (V.str s3), (V.int .i64 i1)] [] none)).bind (fun r27 => (Res.onRet r27 (fun v28 => (V.asInt v28 .i64 (fun n29 => (bif (decide (n29 < (0 : Int))) then (some ⟨(Out.ret (V.tup [(V.int .i64 (0 : Int)), (V.int .i64 (40 : Int))])), [], none⟩) else (if (((0 : Int) ≤ n29) ∧ (n29 < (l0.length : Int))) then (V.asInt (List.getD (List.getD l0 (Int.toNat n29) []) 2 V.undef) .i64 (fun n32 => (bif (!((decide (n32 > (0 : Int))) == (i2 == (4 : Int)))) then (J1_1_1_1_1_1_0_1_0_1_1_0_1_0_0 l0 i1 n29 i2 s3 i4 l5) else (if (((0 : Int) ≤ n29) ∧ (n29 < (l0.length : Int))) then (V.asInt (List.getD (List.getD l0 (Int.toNat n29) []) 2 V.undef) .i64 (fun n33 => (bif (decide (n33 < (0 : Int))) then (bif (i2 == (3 : Int)) then (J1_1_1_1_1_1_0_1_0_1_1_0_1_0_0 l0 i1 n29 i2 s3 i4 l5) else (J1_1_1_1_1_1_0_1_0_1_1_1_0_0 l0 i1 n29 i2 s3 i4 l5)) else (J1_1_1_1_1_1_0_1_0_1_1_1_0_0 l0 i1 n29 i2 s3 i4 l5)))) else none)))) else none))))))) else (if (((0 : Int) ≤ (0 : Int)) ∧ ((0 : Int) < (l5.length : Int))) then (V.asInt (List.getD (List.getD l5 0 []) 0 V.undef) .i64 (fun n27 => (V.asStr (List.getD (List.getD l5 0 []) 1 V.undef) (fun s28 => (V.asInt (List.getD (List.getD l5 0 []) 2 V.undef) .i64 (fun n29 => (V.asSl (List.getD (List.getD l5 0 []) 3 V.undef) T_api_Expr (fun es30 => ((den Sp ref04_TypeOf.id [(V.agg [(V.int .i64 n27), (V.str s28), (V.int .i64 n29), (V.sl .no T_api_Expr es30)]), (V.sl .no T_api_Var l0), (V.int .i64 i1)] [] none)).bind (fun r31 => (Res.onRet r31 (fun v32 => (V.asTup v32 2 (fun rd33 => (V.asInt (rd33 0) .i64 (fun n34 => (V.asInt (rd33 1) .i64 (fun n35 => (bif (n35 != (0 : Int)) then (some ⟨(Out.ret (V.tup [(V.int .i64 (0 : Int)), (V.int .i64 n35)])), [], none⟩) else (bif (i2 == (5 : Int)) then (bif (!(decide (s3 = (ByteArray.mk #[45])))) then (bif (!(decide (s3 = (ByteArray.mk #[33])))) then (J1_1_1_1_1_1_1_1_1_0_1_0_0_1_0_0 l0 i1 n34 i2 s3 i4 l5) else (J1_1_1_1_1_1_1_1_1_0_1_0_1_0_0 l0 i1 n34 i2 s3 i4 l5)) else (J1_1_1_1_1_1_1_1_1_0_1_0_1_0_0 l0 i1 n34 i2 s3 i4 l5)) else (if (((0 : Int) ≤ (1 : Int)) ∧ ((1 : Int) < (l5.length : Int))) then (V.asInt (List.getD (List.getD l5 1 []) 0 V.undef) .i64 (fun n39 => (V.asStr (List.getD (List.getD l5 1 []) 1 V.undef) (fun s40 => (V.asInt (List.getD (List.getD l5 1 []) 2 V.undef) .i64 (fun n41 => (V.asSl (List.getD (List.getD l5 1 []) 3 V.undef) T_api_Expr (fun es42 => ((den Sp ref04_TypeOf.id [(V.agg [(V.int .i64 n39), (V.str s40), (V.int .i64 n41), (V.sl .no T_api_Expr es42)]), (V.sl .no T_api_Var l0), (V.int .i64 i1)] [] none)).bind (fun r43 => (Res.onRet r43 (fun v44 => (V.asTup v44 2 (fun rd45 => (V.asInt (rd45 0) .i64 (fun n46 => (V.asInt (rd45 1) .i64 (fun n47 => (bif (n47 != (0 : Int)) then (some ⟨(Out.ret (V.tup [(V.int .i64 (0 : Int)), (V.int .i64 n47)])), [], none⟩) else ((den Sp ref04_one.id [(V.str s3)] [] none)).bind (fun r50 => (Res.onRet r50 (fun v51 => (V.asTup v51 2 (fun rd52 => (V.asInt (rd52 0) .i64 (fun n53 => (V.asInt (rd52 1) .i64 (fun n54 => (bif (n54 == (0 : Int)) then (some ⟨(Out.ret (V.tup [(V.int .i64 (0 : Int)), (V.int .i64 (32 : Int))])), [], none⟩) else (bif (n34 != n46) then (J1_1_1_1_1_1_1_1_1_1_1_1_1_1_0_1_0_0 l0 i1 n34 n54 i2 s3 i4 l5) else (bif (n53 != (3 : Int)) then (bif (n34 != n53) then (J1_1_1_1_1_1_1_1_1_1_1_1_1_1_0_1_0_0 l0 i1 n34 n54 i2 s3 i4 l5) else (J1_1_1_1_1_1_1_1_1_1_1_1_1_1_1_0 l0 i1 n34 n54 i2 s3 i4 l5)) else (J1_1_1_1_1_1_1_1_1_1_1_1_1_1_1_0 l0 i1 n34 n54 i2 s3 i4 l5))))))))))))))))))))))))))))))) else none)))))))))))))))))))) else none))))) := (joinAt_eq ..).trans (by kernel_rfl)
theorem J1_1_1_1_1_1_0_1_0_1_1_0_1_0_0_eq (l0 : List (List V)) (i1 i2 i3 : Int) (s4 : ByteArray) (i5 : Int) (l6 : List (List V)) : J1_1_1_1_1_1_0_1_0_1_1_0_1_0_0 l0 i1 i2 i3 s4 i5 l6 =
    (some ⟨(Out.ret (V.tup [(V.int .i64 (0 : Int)), (V.int .i64 (41 : Int))])), [], none⟩) := (joinAt_eq ..).trans (by kernel_rfl)
theorem J1_1_1_1_1_1_0_1_0_1_1_1_0_0_eq (l0 : List (List V)) (i1 i2 i3 : Int) (s4 : ByteArray) (i5 : Int) (l6 : List (List V)) : J1_1_1_1_1_1_0_1_0_1_1_1_0_0 l0 i1 i2 i3 s4 i5 l6 =
    (bif (i3 == (3 : Int)) then (if (((0 : Int) ≤ i2) ∧ (i2 < (l0.length : Int))) then (V.asInt (List.getD (List.getD l0 (Int.toNat i2) []) 1 V.undef) .i64 (fun n43 => (some ⟨(Out.ret (V.tup [(V.int .i64 n43), (V.int .i64 (0 : Int))])), [], none⟩))) else none) else (if (((0 : Int) ≤ (0 : Int)) ∧ ((0 : Int) < (l6.length : Int))) then (V.asInt (List.getD (List.getD l6 0 []) 0 V.undef) .i64 (fun n43 => (V.asStr (List.getD (List.getD l6 0 []) 1 V.undef) (fun s44 => (V.asInt (List.getD (List.getD l6 0 []) 2 V.undef) .i64 (fun n45 => (V.asSl (List.getD (List.getD l6 0 []) 3 V.undef) T_api_Expr (fun es46 => ((den Sp ref04_typed.id [(V.agg [(V.int .i64 n43), (V.str s44), (V.int .i64 n45), (V.sl .no T_api_Expr es46)]), (V.sl .no T_api_Var l0), (V.int .i64 i1), (V.int .i64 (1 : Int)), (V.int .i64 (1 : Int))] [] none)).bind (fun r47 => (Res.onRet r47 (fun v48 => (V.asTup v48 2 (fun rd49 => (V.asInt (rd49 0) .i64 (fun n50 => (V.asInt (rd49 1) .i64 (fun n51 => (some ⟨(Out.ret (V.tup [(V.int .i64 n50), (V.int .i64 n51)])), [], none⟩)))))))))))))))))) else none)) := (joinAt_eq ..).trans (by kernel_rfl)
theorem J1_1_1_1_1_1_1_1_1_0_1_0_0_1_0_0_eq (l0 : List (List V)) (i1 i2 i3 : Int) (s4 : ByteArray) (i5 : Int) (l6 : List (List V)) : J1_1_1_1_1_1_1_1_1_0_1_0_0_1_0_0 l0 i1 i2 i3 s4 i5 l6 =
    (some ⟨(Out.ret (V.tup [(V.int .i64 (0 : Int)), (V.int .i64 (32 : Int))])), [], none⟩) := (joinAt_eq ..).trans (by kernel_rfl)
theorem J1_1_1_1_1_1_1_1_1_0_1_0_1_0_0_eq (l0 : List (List V)) (i1 i2 i3 : Int) (s4 : ByteArray) (i5 : Int) (l6 : List (List V)) : J1_1_1_1_1_1_1_1_1_0_1_0_1_0_0 l0 i1 i2 i3 s4 i5 l6 =
    (bif (decide (s4 = (ByteArray.mk #[45]))) then (bif (i2 != (1 : Int)) then (J1_1_1_1_1_1_1_1_1_0_1_0_1_0_1_0_0 l0 i1 i2 i3 s4 i5 l6) else (bif (decide (s4 = (ByteArray.mk #[33]))) then (bif (i2 != (2 : Int)) then (J1_1_1_1_1_1_1_1_1_0_1_0_1_0_1_0_0 l0 i1 i2 i3 s4 i5 l6) else (J1_1_1_1_1_1_1_1_1_0_1_0_1_1_0 l0 i1 i2 i3 s4 i5 l6)) else (J1_1_1_1_1_1_1_1_1_0_1_0_1_1_0 l0 i1 i2 i3 s4 i5 l6))) else (bif (decide (s4 = (ByteArray.mk #[33]))) then (bif (i2 != (2 : Int)) then (J1_1_1_1_1_1_1_1_1_0_1_0_1_0_1_0_0 l0 i1 i2 i3 s4 i5 l6) else (J1_1_1_1_1_1_1_1_1_0_1_0_1_1_0 l0 i1 i2 i3 s4 i5 l6)) else (J1_1_1_1_1_1_1_1_1_0_1_0_1_1_0 l0 i1 i2 i3 s4 i5 l6))) := (joinAt_eq ..).trans (by kernel_rfl)
theorem J1_1_1_1_1_1_1_1_1_0_1_0_1_0_1_0_0_eq (l0 : List (List V)) (i1 i2 i3 : Int) (s4 : ByteArray) (i5 : Int) (l6 : List (List V)) : J1_1_1_1_1_1_1_1_1_0_1_0_1_0_1_0_0 l0 i1 i2 i3 s4 i5 l6 =
    (some ⟨(Out.ret (V.tup [(V.int .i64 (0 : Int)), (V.int .i64 (41 : Int))])), [], none⟩) := (joinAt_eq ..).trans (by kernel_rfl)
theorem J1_1_1_1_1_1_1_1_1_0_1_0_1_1_0_eq (l0 : List (List V)) (i1 i2 i3 : Int) (s4 : ByteArray) (i5 : Int) (l6 : List (List V)) : J1_1_1_1_1_1_1_1_1_0_1_0_1_1_0 l0 i1 i2 i3 s4 i5 l6 =
    (some ⟨(Out.ret (V.tup [(V.int .i64 i2), (V.int .i64 (0 : Int))])), [], none⟩) := (joinAt_eq ..).trans (by kernel_rfl)
theorem J1_1_1_1_1_1_1_1_1_1_1_1_1_1_0_1_0_0_eq (l0 : List (List V)) (i1 i2 i3 i4 : Int) (s5 : ByteArray) (i6 : Int) (l7 : List (List V)) : J1_1_1_1_1_1_1_1_1_1_1_1_1_1_0_1_0_0 l0 i1 i2 i3 i4 s5 i6 l7 =
    (some ⟨(Out.ret (V.tup [(V.int .i64 (0 : Int)), (V.int .i64 (41 : Int))])), [], none⟩) := (joinAt_eq ..).trans (by kernel_rfl)
theorem J1_1_1_1_1_1_1_1_1_1_1_1_1_1_1_0_eq (l0 : List (List V)) (i1 i2 i3 i4 : Int) (s5 : ByteArray) (i6 : Int) (l7 : List (List V)) : J1_1_1_1_1_1_1_1_1_1_1_1_1_1_1_0 l0 i1 i2 i3 i4 s5 i6 l7 =
    (some ⟨(Out.ret (V.tup [(V.int .i64 i3), (V.int .i64 (0 : Int))])), [], none⟩) := (joinAt_eq ..).trans (by kernel_rfl)
theorem eq (a0_0 : Int) (a0_1 : ByteArray) (a0_2 : Int) (a0_3 a1 : List (List V)) (a2 : Int) : den Sp id [(V.agg [(V.int .i64 a0_0), (V.str a0_1), (V.int .i64 a0_2), (V.sl .no T_api_Expr a0_3)]), (V.sl .no T_api_Var a1), (V.int .i64 a2)] [] none =
    (bif (decide (a0_0 < (1 : Int))) then (J1_1_0_1_0_0 a1 a2 a0_0 a0_1 a0_2 a0_3) else (bif (decide (a0_0 > (6 : Int))) then (J1_1_0_1_0_0 a1 a2 a0_0 a0_1 a0_2 a0_3) else (if (((0 : Int) ≤ a0_0) ∧ (a0_0 < ((7 : Nat) : Int))) then (V.asInt (List.getD (List.getD [[(V.int .i64 (Neg.neg (1 : Int)))], [(V.int .i64 (0 : Int))], [(V.int .i64 (0 : Int))], [(V.int .i64 (0 : Int))], [(V.int .i64 (1 : Int))], [(V.int .i64 (1 : Int))], [(V.int .i64 (2 : Int))]] (Int.toNat a0_0) []) 0 V.undef) .i64 (fun n9 => (bif ((a0_3.length : Int) != n9) then (J1_1_0_1_0_0 a1 a2 a0_0 a0_1 a0_2 a0_3) else (J1_1_1_0_0 a1 a2 a0_0 a0_1 a0_2 a0_3)))) else none))) := (den_eq ..).trans (by kernel_rfl)
end ref04_TypeOf
namespace ref04_typed
noncomputable abbrev e (p : List Nat) := ev Sp (den Sp) id Tryz.f144.ntmps (cAt (bodyOf Tryz.f144) p)
noncomputable abbrev cn (n0 : List Nat) := canon Sp id n0
noncomputable abbrev K : K := kFin Sp (den Sp) Tryz.f144 0
theorem eq (a0_0 : Int) (a0_1 : ByteArray) (a0_2 : Int) (a0_3 a1 : List (List V)) (a2 a3 a4 : Int) : den Sp id [(V.agg [(V.int .i64 a0_0), (V.str a0_1), (V.int .i64 a0_2), (V.sl .no T_api_Expr a0_3)]), (V.sl .no T_api_Var a1), (V.int .i64 a2), (V.int .i64 a3), (V.int .i64 a4)] [] none =
    ((den Sp ref04_TypeOf.id [(V.agg [(V.int .i64 a0_0), (V.str a0_1), (V.int .i64 a0_2), (V.sl .no T_api_Expr a0_3)]), (V.sl .no T_api_Var a1), (V.int .i64 a2)] [] none)).bind (fun r10 => (Res.onRet r10 (fun v11 => (V.asTup v11 2 (fun rd12 => (V.asInt (rd12 0) .i64 (fun n13 => (V.asInt (rd12 1) .i64 (fun n14 => (bif (n14 != (0 : Int)) then (some ⟨(Out.ret (V.tup [(V.int .i64 (0 : Int)), (V.int .i64 n14)])), [], none⟩) else (bif (n13 != a3) then (some ⟨(Out.ret (V.tup [(V.int .i64 (0 : Int)), (V.int .i64 (41 : Int))])), [], none⟩) else (some ⟨(Out.ret (V.tup [(V.int .i64 a4), (V.int .i64 (0 : Int))])), [], none⟩)))))))))))) := (den_eq ..).trans (by kernel_rfl)
end ref04_typed
namespace ref04_is
noncomputable abbrev e (p : List Nat) := ev Sp (den Sp) id Tryz.f148.ntmps (cAt (bodyOf Tryz.f148) p)
noncomputable abbrev cn (n0 : List Nat) := canon Sp id n0
noncomputable abbrev K : K := kFin Sp (den Sp) Tryz.f148 0
theorem eq (a0_0 : Int) (a0_1 : ByteArray) (a0_2 : Int) (a0_3 a1 : List (List V)) (a2 a3 : Int) : den Sp id [(V.agg [(V.int .i64 a0_0), (V.str a0_1), (V.int .i64 a0_2), (V.sl .no T_api_Expr a0_3)]), (V.sl .no T_api_Var a1), (V.int .i64 a2), (V.int .i64 a3)] [] none =
    ((den Sp ref04_typed.id [(V.agg [(V.int .i64 a0_0), (V.str a0_1), (V.int .i64 a0_2), (V.sl .no T_api_Expr a0_3)]), (V.sl .no T_api_Var a1), (V.int .i64 a2), (V.int .i64 a3), (V.int .i64 a3)] [] none)).bind (fun r9 => (Res.onRet r9 (fun v10 => (V.asTup v10 2 (fun rd11 => (V.asInt (rd11 0) .i64 (fun n12 => (V.asInt (rd11 1) .i64 (fun n13 => (some ⟨(Out.ret (V.int .i64 n13)), [], none⟩)))))))))) := (den_eq ..).trans (by kernel_rfl)
end ref04_is
namespace ref04_holder
noncomputable abbrev e (p : List Nat) := ev Sp (den Sp) id Tryz.f147.ntmps (cAt (bodyOf Tryz.f147) p)
noncomputable abbrev cn (n0 : List Nat) := canon Sp id n0
noncomputable abbrev K : K := kFin Sp (den Sp) Tryz.f147 0
theorem eq (a0 : List (List V)) (a1 : ByteArray) (a2 : Int) (a3 : Bool) (a4 : Int) : den Sp id [(V.sl .no T_api_Var a0), (V.str a1), (V.int .i64 a2), (V.bool a3), (V.int .i64 a4)] [] none =
    ((den Sp ref04_Find.id [(V.sl .no T_api_Var a0), (V.str a1), (V.int .i64 a2)] [] none)).bind (fun r7 => (Res.onRet r7 (fun v8 => (V.asInt v8 .i64 (fun n9 => (bif (decide (n9 < (0 : Int))) then (some ⟨(Out.ret (V.int .i64 (40 : Int))), [], none⟩) else (if (((0 : Int) ≤ n9) ∧ (n9 < (a0.length : Int))) then (V.asInt (List.getD (List.getD a0 (Int.toNat n9) []) 2 V.undef) .i64 (fun n12 => (bif (!((decide (n12 > (0 : Int))) == a3)) then (some ⟨(Out.ret (V.int .i64 (41 : Int))), [], none⟩) else (bif (a4 != (0 : Int)) then (if (((0 : Int) ≤ n9) ∧ (n9 < (a0.length : Int))) then (V.asInt (List.getD (List.getD a0 (Int.toNat n9) []) 1 V.undef) .i64 (fun n13 => (bif (n13 != a4) then (some ⟨(Out.ret (V.int .i64 (41 : Int))), [], none⟩) else (some ⟨(Out.ret (V.int .i64 (0 : Int))), [], none⟩)))) else none) else (some ⟨(Out.ret (V.int .i64 (0 : Int))), [], none⟩))))) else none))))))) := (den_eq ..).trans (by kernel_rfl)
end ref04_holder
namespace ref04_first
noncomputable abbrev e (p : List Nat) := ev Sp (den Sp) id Tryz.f149.ntmps (cAt (bodyOf Tryz.f149) p)
noncomputable abbrev cn (n0 : List Nat) := canon Sp id n0
noncomputable abbrev K : K := kFin Sp (den Sp) Tryz.f149 0
noncomputable def L1_0_1_0 (l0 : List (List V)) (i1 : Int) : Option Res := LP (e [1, 0, 1, 0, 0]) (cn []) (kBlk 0 (kSeq (e [1, 1]) (K))) ([(0, (V.sl .no T_api_Errno l0)), (3, (V.int .i64 i1))], ⟨[], [], [], [], none⟩)
theorem L1_0_1_0_eq (l0 : List (List V)) (i1 : Int) : L1_0_1_0 l0 i1 =
    (bif (decide (i1 < (l0.length : Int))) then (if (((0 : Int) ≤ i1) ∧ (i1 < (l0.length : Int))) then (V.asInt (List.getD (List.getD l0 (Int.toNat i1) []) 0 V.undef) .i64 (fun n7 => (bif (n7 != (0 : Int)) then (if (((0 : Int) ≤ i1) ∧ (i1 < (l0.length : Int))) then (V.asInt (List.getD (List.getD l0 (Int.toNat i1) []) 0 V.undef) .i64 (fun n9 => (some ⟨(Out.ret (V.int .i64 n9)), [], none⟩))) else none) else (L1_0_1_0 l0 (IntKind.wrap .i64 (i1 + (1 : Int))))))) else none) else (some ⟨(Out.ret (V.int .i64 (0 : Int))), [], none⟩)) := (LP_eq ..).trans (by kernel_rfl)
theorem eq (a0 : (List (List V))) : den Sp id [(V.sl .no T_api_Errno a0)] [] none =
    (L1_0_1_0 a0 (0 : Int)) := (den_eq ..).trans (by kernel_rfl)
end ref04_first
namespace ref04_kinds
noncomputable abbrev e (p : List Nat) := ev Sp (den Sp) id Tryz.f146.ntmps (cAt (bodyOf Tryz.f146) p)
noncomputable abbrev cn (n0 : List Nat) := canon Sp id n0
noncomputable abbrev K : K := kFin Sp (den Sp) Tryz.f146 0
theorem eq (a0 : Int) : den Sp id [(V.int .i64 a0)] [] none =
    (bif (decide (a0 < (1 : Int))) then (some ⟨(Out.ret (V.int .i64 (Neg.neg (2 : Int)))), [], none⟩) else (bif (decide (a0 > (10 : Int))) then (some ⟨(Out.ret (V.int .i64 (Neg.neg (2 : Int)))), [], none⟩) else (if (((0 : Int) ≤ a0) ∧ (a0 < ((11 : Nat) : Int))) then (V.asInt (List.getD (List.getD [[(V.int .i64 (Neg.neg (1 : Int)))], [(V.int .i64 (0 : Int))], [(V.int .i64 (1 : Int))], [(V.int .i64 (2 : Int))], [(V.int .i64 (1 : Int))], [(V.int .i64 (1 : Int))], [(V.int .i64 (Neg.neg (1 : Int)))], [(V.int .i64 (Neg.neg (1 : Int)))], [(V.int .i64 (1 : Int))], [(V.int .i64 (0 : Int))], [(V.int .i64 (1 : Int))]] (Int.toNat a0) []) 0 V.undef) .i64 (fun n5 => (some ⟨(Out.ret (V.int .i64 n5)), [], none⟩))) else none))) := (den_eq ..).trans (by kernel_rfl)
end ref04_kinds
namespace ref04_call
noncomputable abbrev e (p : List Nat) := ev Sp (den Sp) id Tryz.f150.ntmps (cAt (bodyOf Tryz.f150) p)
noncomputable abbrev cn (n0 : List Nat) := canon Sp id n0
noncomputable abbrev K : K := kFin Sp (den Sp) Tryz.f150 0
noncomputable def L1_1_0_1_0 (l0 : List (List V)) (i1 i2 i3 : Int) (l4 : List (List V)) (i5 : Int) (s6 s7 : ByteArray) (i8 : Int) (l9 l10 l11 : List (List V)) : Option Res := LP (e [1, 1, 0, 1, 0, 0]) (cn [1004, 1005]) (kBlk 0 (kSeq (e [1, 1, 1]) (K))) ([(2, (V.sl .no T_api_Var l0)), (3, (V.int .i64 i1)), (4, (V.ref 1004 0)), (5, (V.ref 1005 0)), (9, (V.int .i64 i2)), (10, (V.int .i64 i3)), (11, V.undef), (12, V.undef)], ⟨[(1004, (Blk.cells T_api_Prog [(V.sl .no T_api_Proc l4)] false)), (1005, (Blk.cells T_api_Stmt [(V.int .i64 i5), (V.str s6), (V.str s7), (V.int .i64 i8), (V.sl .no T_api_Expr l9), (V.sl .no T_api_Stmt l10), (V.sl .no T_api_Stmt l11)] false))], [], [], [], none⟩)
noncomputable def L1_1_1_1_1_1_0_1_0 (l0 : List (List V)) (i1 i2 i3 i4 : Int) (l5 : List (List V)) (i6 : Int) (s7 s8 : ByteArray) (i9 : Int) (l10 l11 l12 : List (List V)) (s13 : ByteArray) (l14 : List (List V)) (i15 : Int) (l16 : List (List V)) : Option Res := LP (e [1, 1, 1, 1, 1, 1, 0, 1, 0, 0]) (cn [1004, 1005, 1011]) (kBlk 2 (kSeq (e [1, 1, 1, 1, 1, 1, 1]) (K))) ([(2, (V.sl .no T_api_Var l0)), (3, (V.int .i64 i1)), (4, (V.ref 1004 0)), (5, (V.ref 1005 0)), (9, (V.int .i64 i2)), (10, (V.int .i64 i3)), (11, (V.ref 1011 0)), (12, (V.int .i64 i4))], ⟨[(1004, (Blk.cells T_api_Prog [(V.sl .no T_api_Proc l5)] false)), (1005, (Blk.cells T_api_Stmt [(V.int .i64 i6), (V.str s7), (V.str s8), (V.int .i64 i9), (V.sl .no T_api_Expr l10), (V.sl .no T_api_Stmt l11), (V.sl .no T_api_Stmt l12)] false)), (1011, (Blk.cells T_api_Proc [(V.str s13), (V.sl .no T_api_Param l14), (V.int .i64 i15), (V.sl .no T_api_Stmt l16)] false))], [], [], [], none⟩)
theorem L1_1_0_1_0_eq (l0 : List (List V)) (i1 i2 i3 : Int) (l4 : List (List V)) (i5 : Int) (s6 s7 : ByteArray) (i8 : Int) (l9 l10 l11 : List (List V)) : L1_1_0_1_0 l0 i1 i2 i3 l4 i5 s6 s7 i8 l9 l10 l11 =
    (bif (decide (i3 ≥ (0 : Int))) then (if (((0 : Int) ≤ i3) ∧ (i3 < (l4.length : Int))) then (V.asStr (List.getD (List.getD l4 (Int.toNat i3) []) 0 V.undef) (fun s27 => (bif (decide (s27 = s7)) then (L1_1_0_1_0 l0 i1 i3 (IntKind.wrap .i64 (i3 - (1 : Int))) l4 i5 s6 s7 i8 l9 l10 l11) else (L1_1_0_1_0 l0 i1 i2 (IntKind.wrap .i64 (i3 - (1 : Int))) l4 i5 s6 s7 i8 l9 l10 l11)))) else none) else (bif (decide (i2 < (0 : Int))) then (some ⟨(Out.ret (V.int .i64 (40 : Int))), [], none⟩) else (if (((0 : Int) ≤ i2) ∧ (i2 < (l4.length : Int))) then (V.asStr (List.getD (List.getD l4 (Int.toNat i2) []) 0 V.undef) (fun s28 => (V.asSl (List.getD (List.getD l4 (Int.toNat i2) []) 1 V.undef) T_api_Param (fun es29 => (V.asInt (List.getD (List.getD l4 (Int.toNat i2) []) 2 V.undef) .i64 (fun n30 => (V.asSl (List.getD (List.getD l4 (Int.toNat i2) []) 3 V.undef) T_api_Stmt (fun es31 => (bif ((es29.length : Int) != (l9.length : Int)) then (some ⟨(Out.ret (V.int .i64 (41 : Int))), [], none⟩) else (L1_1_1_1_1_1_0_1_0 l0 i1 i2 i3 (0 : Int) l4 i5 s6 s7 i8 l9 l10 l11 s28 es29 n30 es31)))))))))) else none))) := (LP_eq ..).trans (by kernel_rfl)
theorem L1_1_1_1_1_1_0_1_0_eq (l0 : List (List V)) (i1 i2 i3 i4 : Int) (l5 : List (List V)) (i6 : Int) (s7 s8 : ByteArray) (i9 : Int) (l10 l11 l12 : List (List V)) (s13 : ByteArray) (l14 : List (List V)) (i15 : Int) (l16 : List (List V)) : L1_1_1_1_1_1_0_1_0 l0 i1 i2 i3 i4 l5 i6 s7 s8 i9 l10 l11 l12 s13 l14 i15 l16 =
    (bif (decide (i4 < (l10.length : Int))) then (if (((0 : Int) ≤ i4) ∧ (i4 < (l10.length : Int))) then (V.asInt (List.getD (List.getD l10 (Int.toNat i4) []) 0 V.undef) .i64 (fun n53 => (V.asStr (List.getD (List.getD l10 (Int.toNat i4) []) 1 V.undef) (fun s54 => (V.asInt (List.getD (List.getD l10 (Int.toNat i4) []) 2 V.undef) .i64 (fun n55 => (V.asSl (List.getD (List.getD l10 (Int.toNat i4) []) 3 V.undef) T_api_Expr (fun es56 => (if (((0 : Int) ≤ i4) ∧ (i4 < (l14.length : Int))) then (V.asInt (List.getD (List.getD l14 (Int.toNat i4) []) 1 V.undef) .i64 (fun n57 => ((den Sp ref04_is.id [(V.agg [(V.int .i64 n53), (V.str s54), (V.int .i64 n55), (V.sl .no T_api_Expr es56)]), (V.sl .no T_api_Var l0), (V.int .i64 i1), (V.int .i64 n57)] [] none)).bind (fun r58 => (Res.onRet r58 (fun v59 => (V.asInt v59 .i64 (fun n60 => (bif (n60 != (0 : Int)) then (some ⟨(Out.ret (V.int .i64 n60)), [], none⟩) else (L1_1_1_1_1_1_0_1_0 l0 i1 i2 i3 (IntKind.wrap .i64 (i4 + (1 : Int))) l5 i6 s7 s8 i9 l10 l11 l12 s13 l14 i15 l16))))))))) else none))))))))) else none) else (bif (decide (s7 = (ByteArray.mk #[]))) then (some ⟨(Out.ret (V.int .i64 (0 : Int))), [], none⟩) else ((den Sp ref04_holder.id [(V.sl .no T_api_Var l0), (V.str s7), (V.int .i64 i1), (V.bool false), (V.int .i64 (0 : Int))] [] none)).bind (fun r54 => (Res.onRet r54 (fun v55 => (V.asInt v55 .i64 (fun n56 => (bif (n56 != (0 : Int)) then (some ⟨(Out.ret (V.int .i64 n56)), [], none⟩) else (bif (i15 == (0 : Int)) then (some ⟨(Out.ret (V.int .i64 (41 : Int))), [], none⟩) else ((den Sp ref04_Find.id [(V.sl .no T_api_Var l0), (V.str s7), (V.int .i64 i1)] [] none)).bind (fun r59 => (Res.onRet r59 (fun v60 => (V.asInt v60 .i64 (fun n61 => (if (((0 : Int) ≤ n61) ∧ (n61 < (l0.length : Int))) then (V.asInt (List.getD (List.getD l0 (Int.toNat n61) []) 1 V.undef) .i64 (fun n62 => (bif (n62 != i15) then (some ⟨(Out.ret (V.int .i64 (41 : Int))), [], none⟩) else (some ⟨(Out.ret (V.int .i64 (0 : Int))), [], none⟩)))) else none))))))))))))))) := (LP_eq ..).trans (by kernel_rfl)
theorem eq (a0_0 : List (List V)) (a1_0 : Int) (a1_1 a1_2 : ByteArray) (a1_3 : Int) (a1_4 a1_5 a1_6 a2 : List (List V)) (a3 : Int) : den Sp id [(V.agg [(V.sl .no T_api_Proc a0_0)]), (V.agg [(V.int .i64 a1_0), (V.str a1_1), (V.str a1_2), (V.int .i64 a1_3), (V.sl .no T_api_Expr a1_4), (V.sl .no T_api_Stmt a1_5), (V.sl .no T_api_Stmt a1_6)]), (V.sl .no T_api_Var a2), (V.int .i64 a3)] [] none =
    (L1_1_0_1_0 a2 a3 (Neg.neg (1 : Int)) (IntKind.wrap .i64 ((a0_0.length : Int) - (1 : Int))) a0_0 a1_0 a1_1 a1_2 a1_3 a1_4 a1_5 a1_6) := (den_eq ..).trans (by kernel_rfl)
end ref04_call
namespace ref04_stmt
noncomputable abbrev e (p : List Nat) := ev Sp (den Sp) id Tryz.f101.ntmps (cAt (bodyOf Tryz.f101) p)
noncomputable abbrev cn (n0 : List Nat) := canon Sp id n0
noncomputable abbrev K : K := kFin Sp (den Sp) Tryz.f101 0
noncomputable def J1_1_0_1_0_0 (l0 : List (List V)) (i1 i2 : Int) (l3 : List (List V)) (s4 : ByteArray) (l5 : List (List V)) (i6 : Int) (l7 : List (List V)) (i8 : Int) (s9 s10 : ByteArray) (i11 : Int) (l12 l13 l14 : List (List V)) : Option Res := joinAt Sp (den Sp) id Tryz.f101.ntmps (cAt (bodyOf Tryz.f101) [1, 1, 0, 1, 0, 0]) (kSeq (e [1, 1, 0, 1, 0, 1]) (kSeq (e [1, 1, 1]) (K))) ([(3, (V.sl .no T_api_Var l0)), (4, (V.int .i64 i1)), (5, (V.ref 1005 0)), (6, (V.ref 1006 0)), (7, (V.ref 1007 0)), (11, (V.int .i64 i2)), (78, V.undef)], ⟨[(1005, (Blk.cells T_api_Prog [(V.sl .no T_api_Proc l3)] false)), (1006, (Blk.cells T_api_Proc [(V.str s4), (V.sl .no T_api_Param l5), (V.int .i64 i6), (V.sl .no T_api_Stmt l7)] false)), (1007, (Blk.cells T_api_Stmt [(V.int .i64 i8), (V.str s9), (V.str s10), (V.int .i64 i11), (V.sl .no T_api_Expr l12), (V.sl .no T_api_Stmt l13), (V.sl .no T_api_Stmt l14)] false))], [], [], [], none⟩)
noncomputable def J1_1_1_0_0 (l0 : List (List V)) (i1 i2 : Int) (l3 : List (List V)) (s4 : ByteArray) (l5 : List (List V)) (i6 : Int) (l7 : List (List V)) (i8 : Int) (s9 s10 : ByteArray) (i11 : Int) (l12 l13 l14 : List (List V)) : Option Res := joinAt Sp (den Sp) id Tryz.f101.ntmps (cAt (bodyOf Tryz.f101) [1, 1, 1, 0, 0]) (kSeq (e [1, 1, 1, 0, 1]) (kSeq (e [1, 1, 1, 1]) (K))) ([(3, (V.sl .no T_api_Var l0)), (4, (V.int .i64 i1)), (5, (V.ref 1005 0)), (6, (V.ref 1006 0)), (7, (V.ref 1007 0)), (11, (V.int .i64 i2)), (78, V.undef)], ⟨[(1005, (Blk.cells T_api_Prog [(V.sl .no T_api_Proc l3)] false)), (1006, (Blk.cells T_api_Proc [(V.str s4), (V.sl .no T_api_Param l5), (V.int .i64 i6), (V.sl .no T_api_Stmt l7)] false)), (1007, (Blk.cells T_api_Stmt [(V.int .i64 i8), (V.str s9), (V.str s10), (V.int .i64 i11), (V.sl .no T_api_Expr l12), (V.sl .no T_api_Stmt l13), (V.sl .no T_api_Stmt l14)] false))], [], [], [], none⟩)
noncomputable def J1_1_1_0_1_0_0 (l0 : List (List V)) (i1 i2 : Int) (l3 : List (List V)) (s4 : ByteArray) (l5 : List (List V)) (i6 : Int) (l7 : List (List V)) (i8 : Int) (s9 s10 : ByteArray) (i11 : Int) (l12 l13 l14 : List (List V)) : Option Res := joinAt Sp (den Sp) id Tryz.f101.ntmps (cAt (bodyOf Tryz.f101) [1, 1, 1, 0, 1, 0, 0]) (kSeq (e [1, 1, 1, 0, 1, 0, 1]) (kSeq (e [1, 1, 1, 1]) (K))) ([(3, (V.sl .no T_api_Var l0)), (4, (V.int .i64 i1)), (5, (V.ref 1005 0)), (6, (V.ref 1006 0)), (7, (V.ref 1007 0)), (11, (V.int .i64 i2)), (78, V.undef)], ⟨[(1005, (Blk.cells T_api_Prog [(V.sl .no T_api_Proc l3)] false)), (1006, (Blk.cells T_api_Proc [(V.str s4), (V.sl .no T_api_Param l5), (V.int .i64 i6), (V.sl .no T_api_Stmt l7)] false)), (1007, (Blk.cells T_api_Stmt [(V.int .i64 i8), (V.str s9), (V.str s10), (V.int .i64 i11), (V.sl .no T_api_Expr l12), (V.sl .no T_api_Stmt l13), (V.sl .no T_api_Stmt l14)] false))], [], [], [], none⟩)
noncomputable def J1_1_1_1_0_0 (l0 : List (List V)) (i1 i2 : Int) (l3 : List (List V)) (s4 : ByteArray) (l5 : List (List V)) (i6 : Int) (l7 : List (List V)) (i8 : Int) (s9 s10 : ByteArray) (i11 : Int) (l12 l13 l14 : List (List V)) : Option Res := joinAt Sp (den Sp) id Tryz.f101.ntmps (cAt (bodyOf Tryz.f101) [1, 1, 1, 1, 0, 0]) (kSeq (e [1, 1, 1, 1, 0, 1]) (kSeq (e [1, 1, 1, 1, 1]) (K))) ([(3, (V.sl .no T_api_Var l0)), (4, (V.int .i64 i1)), (5, (V.ref 1005 0)), (6, (V.ref 1006 0)), (7, (V.ref 1007 0)), (11, (V.int .i64 i2)), (78, V.undef)], ⟨[(1005, (Blk.cells T_api_Prog [(V.sl .no T_api_Proc l3)] false)), (1006, (Blk.cells T_api_Proc [(V.str s4), (V.sl .no T_api_Param l5), (V.int .i64 i6), (V.sl .no T_api_Stmt l7)] false)), (1007, (Blk.cells T_api_Stmt [(V.int .i64 i8), (V.str s9), (V.str s10), (V.int .i64 i11), (V.sl .no T_api_Expr l12), (V.sl .no T_api_Stmt l13), (V.sl .no T_api_Stmt l14)] false))], [], [], [], none⟩)
noncomputable def J1_1_1_1_1_0 (l0 : List (List V)) (i1 i2 i3 : Int) (l4 : List (List V)) (s5 : ByteArray) (l6 : List (List V)) (i7 : Int) (l8 : List (List V)) (i9 : Int) (s10 s11 : ByteArray) (i12 : Int) (l13 l14 l15 : List (List V)) : Option Res := joinAt Sp (den Sp) id Tryz.f101.ntmps (cAt (bodyOf Tryz.f101) [1, 1, 1, 1, 1, 0]) (kSeq (e [1, 1, 1, 1, 1, 1]) (K)) ([(3, (V.sl .no T_api_Var l0)), (4, (V.int .i64 i1)), (5, (V.ref 1005 0)), (6, (V.ref 1006 0)), (7, (V.ref 1007 0)), (11, (V.int .i64 i2)), (78, (V.int .i64 i3))], ⟨[(1005, (Blk.cells T_api_Prog [(V.sl .no T_api_Proc l4)] false)), (1006, (Blk.cells T_api_Proc [(V.str s5), (V.sl .no T_api_Param l6), (V.int .i64 i7), (V.sl .no T_api_Stmt l8)] false)), (1007, (Blk.cells T_api_Stmt [(V.int .i64 i9), (V.str s10), (V.str s11), (V.int .i64 i12), (V.sl .no T_api_Expr l13), (V.sl .no T_api_Stmt l14), (V.sl .no T_api_Stmt l15)] false))], [], [], [], none⟩)
noncomputable def J1_1_1_1_0_1_0_1_1_1_1_1_1_1_0_0 (l0 : List (List V)) (i1 i2 i3 : Int) (l4 : List (List V)) (s5 : ByteArray) (l6 : List (List V)) (i7 : Int) (l8 : List (List V)) (i9 : Int) (s10 s11 : ByteArray) (i12 : Int) (l13 l14 l15 : List (List V)) : Option Res := joinAt Sp (den Sp) id Tryz.f101.ntmps (cAt (bodyOf Tryz.f101) [1, 1, 1, 1, 0, 1, 0, 1, 1, 1, 1, 1, 1, 1, 0, 0]) (kSeq (e [1, 1, 1, 1, 0, 1, 0, 1, 1, 1, 1, 1, 1, 1, 0, 1]) (kBlk 0 (kSeq (e [1, 1, 1, 1, 1]) (K)))) ([(3, (V.sl .no T_api_Var l0)), (4, (V.int .i64 i1)), (5, (V.ref 1005 0)), (6, (V.ref 1006 0)), (7, (V.ref 1007 0)), (11, (V.int .i64 i2)), (78, (V.int .i64 i3))], ⟨[(1005, (Blk.cells T_api_Prog [(V.sl .no T_api_Proc l4)] false)), (1006, (Blk.cells T_api_Proc [(V.str s5), (V.sl .no T_api_Param l6), (V.int .i64 i7), (V.sl .no T_api_Stmt l8)] false)), (1007, (Blk.cells T_api_Stmt [(V.int .i64 i9), (V.str s10), (V.str s11), (V.int .i64 i12), (V.sl .no T_api_Expr l13), (V.sl .no T_api_Stmt l14), (V.sl .no T_api_Stmt l15)] false))], [], [], [], none⟩)
noncomputable def J1_1_1_1_0_1_0_1_1_1_1_1_1_1_1_0 (l0 : List (List V)) (i1 i2 i3 : Int) (l4 : List (List V)) (s5 : ByteArray) (l6 : List (List V)) (i7 : Int) (l8 : List (List V)) (i9 : Int) (s10 s11 : ByteArray) (i12 : Int) (l13 l14 l15 : List (List V)) : Option Res := joinAt Sp (den Sp) id Tryz.f101.ntmps (cAt (bodyOf Tryz.f101) [1, 1, 1, 1, 0, 1, 0, 1, 1, 1, 1, 1, 1, 1, 1, 0]) (kSeq (e [1, 1, 1, 1, 0, 1, 0, 1, 1, 1, 1, 1, 1, 1, 1, 1]) (kBlk 0 (kSeq (e [1, 1, 1, 1, 1]) (K)))) ([(3, (V.sl .no T_api_Var l0)), (4, (V.int .i64 i1)), (5, (V.ref 1005 0)), (6, (V.ref 1006 0)), (7, (V.ref 1007 0)), (11, (V.int .i64 i2)), (78, (V.int .i64 i3))], ⟨[(1005, (Blk.cells T_api_Prog [(V.sl .no T_api_Proc l4)] false)), (1006, (Blk.cells T_api_Proc [(V.str s5), (V.sl .no T_api_Param l6), (V.int .i64 i7), (V.sl .no T_api_Stmt l8)] false)), (1007, (Blk.cells T_api_Stmt [(V.int .i64 i9), (V.str s10), (V.str s11), (V.int .i64 i12), (V.sl .no T_api_Expr l13), (V.sl .no T_api_Stmt l14), (V.sl .no T_api_Stmt l15)] false))], [], [], [], none⟩)
theorem J1_1_0_1_0_0_eq (l0 : List (List V)) (i1 i2 : Int) (l3 : List (List V)) (s4 : ByteArray) (l5 : List (List V)) (i6 : Int) (l7 : List (List V)) (i8 : Int) (s9 s10 : ByteArray) (i11 : Int) (l12 l13 l14 : List (List V)) : J1_1_0_1_0_0 l0 i1 i2 l3 s4 l5 i6 l7 i8 s9 s10 i11 l12 l13 l14 =
    (some ⟨(Out.ret (V.int .i64 (32 : Int))), [], none⟩) := (joinAt_eq ..).trans (by kernel_rfl)
theorem J1_1_1_0_0_eq (l0 : List (List V)) (i1 i2 : Int) (l3 : List (List V)) (s4 : ByteArray) (l5 : List (List V)) (i6 : Int) (l7 : List (List V)) (i8 : Int) (s9 s10 : ByteArray) (i11 : Int) (l12 l13 l14 : List (List V)) : J1_1_1_0_0 l0 i1 i2 l3 s4 l5 i6 l7 i8 s9 s10 i11 l12 l13 l14 =
    (bif (i2 == (Neg.neg (2 : Int))) then (J1_1_1_0_1_0_0 l0 i1 i2 l3 s4 l5 i6 l7 i8 s9 s10 i11 l12 l13 l14) else (bif (decide (i2 ≥ (0 : Int))) then (bif ((l12.length : Int) != i2) then (J1_1_1_0_1_0_0 l0 i1 i2 l3 s4 l5 i6 l7 i8 s9 s10 i11 l12 l13 l14) else (bif (i8 == (7 : Int)) then (bif (decide ((l12.length : Int) > (1 : Int))) then (J1_1_1_0_1_0_0 l0 i1 i2 l3 s4 l5 i6 l7 i8 s9 s10 i11 l12 l13 l14) else (J1_1_1_1_0_0 l0 i1 i2 l3 s4 l5 i6 l7 i8 s9 s10 i11 l12 l13 l14)) else (J1_1_1_1_0_0 l0 i1 i2 l3 s4 l5 i6 l7 i8 s9 s10 i11 l12 l13 l14))) else (bif (i8 == (7 : Int)) then (bif (decide ((l12.length : Int) > (1 : Int))) then (J1_1_1_0_1_0_0 l0 i1 i2 l3 s4 l5 i6 l7 i8 s9 s10 i11 l12 l13 l14) else (J1_1_1_1_0_0 l0 i1 i2 l3 s4 l5 i6 l7 i8 s9 s10 i11 l12 l13 l14)) else (J1_1_1_1_0_0 l0 i1 i2 l3 s4 l5 i6 l7 i8 s9 s10 i11 l12 l13 l14)))) := (joinAt_eq ..).trans (by kernel_rfl)
theorem J1_1_1_0_1_0_0_eq (l0 : List (List V)) (i1 i2 : Int) (l3 : List (List V)) (s4 : ByteArray) (l5 : List (List V)) (i6 : Int) (l7 : List (List V)) (i8 : Int) (s9 s10 : ByteArray) (i11 : Int) (l12 l13 l14 : List (List V)) : J1_1_1_0_1_0_0 l0 i1 i2 l3 s4 l5 i6 l7 i8 s9 s10 i11 l12 l13 l14 =
    (some ⟨(Out.ret (V.int .i64 (32 : Int))), [], none⟩) := (joinAt_eq ..).trans (by kernel_rfl)
theorem J1_1_1_1_0_0_eq (l0 : List (List V)) (i1 i2 : Int) (l3 : List (List V)) (s4 : ByteArray) (l5 : List (List V)) (i6 : Int) (l7 : List (List V)) (i8 : Int) (s9 s10 : ByteArray) (i11 : Int) (l12 l13 l14 : List (List V)) : J1_1_1_1_0_0 l0 i1 i2 l3 s4 l5 i6 l7 i8 s9 s10 i11 l12 l13 l14 =
    (bif (i8 == (1 : Int)) then (bif (decide (i11 > (64 : Int))) then (some ⟨(Out.ret (V.int .i64 (2 : Int))), [], none⟩) else (J1_1_1_1_1_0 l0 i1 i2 i8 l3 s4 l5 i6 l7 i8 s9 s10 i11 l12 l13 l14)) else (bif (i8 == (2 : Int)) then ((den Sp ref04_holder.id [(V.sl .no T_api_Var l0), (V.str s9), (V.int .i64 i1), (V.bool false), (V.int .i64 (0 : Int))] [] none)).bind (fun r55 => (Res.onRet r55 (fun v56 => (V.asInt v56 .i64 (fun n57 => (bif (n57 != (0 : Int)) then (some ⟨(Out.ret (V.int .i64 n57)), [], none⟩) else (if (((0 : Int) ≤ (0 : Int)) ∧ ((0 : Int) < (l12.length : Int))) then (V.asInt (List.getD (List.getD l12 0 []) 0 V.undef) .i64 (fun n60 => (V.asStr (List.getD (List.getD l12 0 []) 1 V.undef) (fun s61 => (V.asInt (List.getD (List.getD l12 0 []) 2 V.undef) .i64 (fun n62 => (V.asSl (List.getD (List.getD l12 0 []) 3 V.undef) T_api_Expr (fun es63 => ((den Sp ref04_Find.id [(V.sl .no T_api_Var l0), (V.str s9), (V.int .i64 i1)] [] none)).bind (fun r64 => (Res.onRet r64 (fun v65 => (V.asInt v65 .i64 (fun n66 => (if (((0 : Int) ≤ n66) ∧ (n66 < (l0.length : Int))) then (V.asInt (List.getD (List.getD l0 (Int.toNat n66) []) 1 V.undef) .i64 (fun n67 => ((den Sp ref04_is.id [(V.agg [(V.int .i64 n60), (V.str s61), (V.int .i64 n62), (V.sl .no T_api_Expr es63)]), (V.sl .no T_api_Var l0), (V.int .i64 i1), (V.int .i64 n67)] [] none)).bind (fun r68 => (Res.onRet r68 (fun v69 => (V.asInt v69 .i64 (fun n70 => (some ⟨(Out.ret (V.int .i64 n70)), [], none⟩)))))))) else none)))))))))))))) else none))))))) else (bif (i8 == (3 : Int)) then ((den Sp ref04_holder.id [(V.sl .no T_api_Var l0), (V.str s9), (V.int .i64 i1), (V.bool true), (V.int .i64 (0 : Int))] [] none)).bind (fun r56 => (Res.onRet r56 (fun v57 => (V.asInt v57 .i64 (fun n58 => (if (((0 : Int) ≤ (0 : Int)) ∧ ((0 : Int) < (l12.length : Int))) then (V.asInt (List.getD (List.getD l12 0 []) 0 V.undef) .i64 (fun n59 => (V.asStr (List.getD (List.getD l12 0 []) 1 V.undef) (fun s60 => (V.asInt (List.getD (List.getD l12 0 []) 2 V.undef) .i64 (fun n61 => (V.asSl (List.getD (List.getD l12 0 []) 3 V.undef) T_api_Expr (fun es62 => ((den Sp ref04_is.id [(V.agg [(V.int .i64 n59), (V.str s60), (V.int .i64 n61), (V.sl .no T_api_Expr es62)]), (V.sl .no T_api_Var l0), (V.int .i64 i1), (V.int .i64 (1 : Int))] [] none)).bind (fun r63 => (Res.onRet r63 (fun v64 => (V.asInt v64 .i64 (fun n65 => (if (((0 : Int) ≤ (1 : Int)) ∧ ((1 : Int) < (l12.length : Int))) then (V.asInt (List.getD (List.getD l12 1 []) 0 V.undef) .i64 (fun n66 => (V.asStr (List.getD (List.getD l12 1 []) 1 V.undef) (fun s67 => (V.asInt (List.getD (List.getD l12 1 []) 2 V.undef) .i64 (fun n68 => (V.asSl (List.getD (List.getD l12 1 []) 3 V.undef) T_api_Expr (fun es69 => ((den Sp ref04_is.id [(V.agg [(V.int .i64 n66), (V.str s67), (V.int .i64 n68), (V.sl .no T_api_Expr es69)]), (V.sl .no T_api_Var l0), (V.int .i64 i1), (V.int .i64 (1 : Int))] [] none)).bind (fun r70 => (Res.onRet r70 (fun v71 => (V.asInt v71 .i64 (fun n72 => ((den Sp ref04_first.id [(V.sl .no T_api_Errno [[(V.int .i64 n58)], [(V.int .i64 n65)], [(V.int .i64 n72)]])] [] none)).bind (fun r73 => (Res.onRet r73 (fun v74 => (V.asInt v74 .i64 (fun n75 => (some ⟨(Out.ret (V.int .i64 n75)), [], none⟩))))))))))))))))))) else none)))))))))))))) else none)))))) else (bif (i8 == (4 : Int)) then (J1_1_1_1_0_1_0_1_1_1_1_1_1_1_0_0 l0 i1 i2 i8 l3 s4 l5 i6 l7 i8 s9 s10 i11 l12 l13 l14) else (bif (i8 == (5 : Int)) then (J1_1_1_1_0_1_0_1_1_1_1_1_1_1_0_0 l0 i1 i2 i8 l3 s4 l5 i6 l7 i8 s9 s10 i11 l12 l13 l14) else (bif (i8 == (10 : Int)) then (J1_1_1_1_0_1_0_1_1_1_1_1_1_1_0_0 l0 i1 i2 i8 l3 s4 l5 i6 l7 i8 s9 s10 i11 l12 l13 l14) else (J1_1_1_1_0_1_0_1_1_1_1_1_1_1_1_0 l0 i1 i2 i8 l3 s4 l5 i6 l7 i8 s9 s10 i11 l12 l13 l14))))))) := (joinAt_eq ..).trans (by kernel_rfl)
theorem J1_1_1_1_1_0_eq (l0 : List (List V)) (i1 i2 i3 : Int) (l4 : List (List V)) (s5 : ByteArray) (l6 : List (List V)) (i7 : Int) (l8 : List (List V)) (i9 : Int) (s10 s11 : ByteArray) (i12 : Int) (l13 l14 l15 : List (List V)) : J1_1_1_1_1_0 l0 i1 i2 i3 l4 s5 l6 i7 l8 i9 s10 s11 i12 l13 l14 l15 =
    (some ⟨(Out.ret (V.int .i64 (0 : Int))), [], none⟩) := (joinAt_eq ..).trans (by kernel_rfl)
theorem J1_1_1_1_0_1_0_1_1_1_1_1_1_1_0_0_eq (l0 : List (List V)) (i1 i2 i3 : Int) (l4 : List (List V)) (s5 : ByteArray) (l6 : List (List V)) (i7 : Int) (l8 : List (List V)) (i9 : Int) (s10 s11 : ByteArray) (i12 : Int) (l13 l14 l15 : List (List V)) : J1_1_1_1_0_1_0_1_1_1_1_1_1_1_0_0 l0 i1 i2 i3 l4 s5 l6 i7 l8 i9 s10 s11 i12 l13 l14 l15 =
    (if (((0 : Int) ≤ (0 : Int)) ∧ ((0 : Int) < (l13.length : Int))) then (V.asInt (List.getD (List.getD l13 0 []) 0 V.undef) .i64 (fun n73 => (V.asStr (List.getD (List.getD l13 0 []) 1 V.undef) (fun s74 => (V.asInt (List.getD (List.getD l13 0 []) 2 V.undef) .i64 (fun n75 => (V.asSl (List.getD (List.getD l13 0 []) 3 V.undef) T_api_Expr (fun es76 => ((den Sp ref04_is.id [(V.agg [(V.int .i64 n73), (V.str s74), (V.int .i64 n75), (V.sl .no T_api_Expr es76)]), (V.sl .no T_api_Var l0), (V.int .i64 i1), (V.int .i64 (2 : Int))] [] none)).bind (fun r77 => (Res.onRet r77 (fun v78 => (V.asInt v78 .i64 (fun n79 => (some ⟨(Out.ret (V.int .i64 n79)), [], none⟩)))))))))))))) else none) := (joinAt_eq ..).trans (by kernel_rfl)
theorem J1_1_1_1_0_1_0_1_1_1_1_1_1_1_1_0_eq (l0 : List (List V)) (i1 i2 i3 : Int) (l4 : List (List V)) (s5 : ByteArray) (l6 : List (List V)) (i7 : Int) (l8 : List (List V)) (i9 : Int) (s10 s11 : ByteArray) (i12 : Int) (l13 l14 l15 : List (List V)) : J1_1_1_1_0_1_0_1_1_1_1_1_1_1_1_0 l0 i1 i2 i3 l4 s5 l6 i7 l8 i9 s10 s11 i12 l13 l14 l15 =
    (bif (i3 == (8 : Int)) then (if (((0 : Int) ≤ (0 : Int)) ∧ ((0 : Int) < (l13.length : Int))) then (V.asInt (List.getD (List.getD l13 0 []) 0 V.undef) .i64 (fun n76 => (V.asStr (List.getD (List.getD l13 0 []) 1 V.undef) (fun s77 => (V.asInt (List.getD (List.getD l13 0 []) 2 V.undef) .i64 (fun n78 => (V.asSl (List.getD (List.getD l13 0 []) 3 V.undef) T_api_Expr (fun es79 => ((den Sp ref04_TypeOf.id [(V.agg [(V.int .i64 n76), (V.str s77), (V.int .i64 n78), (V.sl .no T_api_Expr es79)]), (V.sl .no T_api_Var l0), (V.int .i64 i1)] [] none)).bind (fun r80 => (Res.onRet r80 (fun v81 => (V.asTup v81 2 (fun rd82 => (V.asInt (rd82 0) .i64 (fun n83 => (V.asInt (rd82 1) .i64 (fun n84 => (some ⟨(Out.ret (V.int .i64 n84)), [], none⟩)))))))))))))))))) else none) else (bif (i3 == (9 : Int)) then ((den Sp ref04_holder.id [(V.sl .no T_api_Var l0), (V.str s10), (V.int .i64 i1), (V.bool false), (V.int .i64 (1 : Int))] [] none)).bind (fun r77 => (Res.onRet r77 (fun v78 => (V.asInt v78 .i64 (fun n79 => (some ⟨(Out.ret (V.int .i64 n79)), [], none⟩)))))) else (bif (i3 == (6 : Int)) then ((den Sp ref04_call.id [(V.agg [(V.sl .no T_api_Proc l4)]), (V.agg [(V.int .i64 i9), (V.str s10), (V.str s11), (V.int .i64 i12), (V.sl .no T_api_Expr l13), (V.sl .no T_api_Stmt l14), (V.sl .no T_api_Stmt l15)]), (V.sl .no T_api_Var l0), (V.int .i64 i1)] [] none)).bind (fun r78 => (Res.onRet r78 (fun v79 => (V.asInt v79 .i64 (fun n80 => (some ⟨(Out.ret (V.int .i64 n80)), [], none⟩)))))) else (bif (i3 == (7 : Int)) then (bif (!((decide ((l13.length : Int) > (0 : Int))) == (i7 != (0 : Int)))) then (some ⟨(Out.ret (V.int .i64 (41 : Int))), [], none⟩) else (bif (decide ((l13.length : Int) > (0 : Int))) then (if (((0 : Int) ≤ (0 : Int)) ∧ ((0 : Int) < (l13.length : Int))) then (V.asInt (List.getD (List.getD l13 0 []) 0 V.undef) .i64 (fun n81 => (V.asStr (List.getD (List.getD l13 0 []) 1 V.undef) (fun s82 => (V.asInt (List.getD (List.getD l13 0 []) 2 V.undef) .i64 (fun n83 => (V.asSl (List.getD (List.getD l13 0 []) 3 V.undef) T_api_Expr (fun es84 => ((den Sp ref04_is.id [(V.agg [(V.int .i64 n81), (V.str s82), (V.int .i64 n83), (V.sl .no T_api_Expr es84)]), (V.sl .no T_api_Var l0), (V.int .i64 i1), (V.int .i64 i7)] [] none)).bind (fun r85 => (Res.onRet r85 (fun v86 => (V.asInt v86 .i64 (fun n87 => (some ⟨(Out.ret (V.int .i64 n87)), [], none⟩)))))))))))))) else none) else (J1_1_1_1_1_0 l0 i1 i2 i3 l4 s5 l6 i7 l8 i9 s10 s11 i12 l13 l14 l15))) else (J1_1_1_1_1_0 l0 i1 i2 i3 l4 s5 l6 i7 l8 i9 s10 s11 i12 l13 l14 l15))))) := (joinAt_eq ..).trans (by kernel_rfl)
theorem eq (a0_0 : List (List V)) (a1_0 : ByteArray) (a1_1 : List (List V)) (a1_2 : Int) (a1_3 : List (List V)) (a2_0 : Int) (a2_1 a2_2 : ByteArray) (a2_3 : Int) (a2_4 a2_5 a2_6 a3 : List (List V)) (a4 : Int) : den Sp id [(V.agg [(V.sl .no T_api_Proc a0_0)]), (V.agg [(V.str a1_0), (V.sl .no T_api_Param a1_1), (V.int .i64 a1_2), (V.sl .no T_api_Stmt a1_3)]), (V.agg [(V.int .i64 a2_0), (V.str a2_1), (V.str a2_2), (V.int .i64 a2_3), (V.sl .no T_api_Expr a2_4), (V.sl .no T_api_Stmt a2_5), (V.sl .no T_api_Stmt a2_6)]), (V.sl .no T_api_Var a3), (V.int .i64 a4)] [] none =
    ((den Sp ref04_kinds.id [(V.int .i64 a2_0)] [] none)).bind (fun r16 => (Res.onRet r16 (fun v17 => (V.asInt v17 .i64 (fun n18 => (bif (decide ((a2_5.length : Int) > (0 : Int))) then (bif (a2_0 != (4 : Int)) then (bif (a2_0 != (5 : Int)) then (J1_1_0_1_0_0 a3 a4 n18 a0_0 a1_0 a1_1 a1_2 a1_3 a2_0 a2_1 a2_2 a2_3 a2_4 a2_5 a2_6) else (bif (decide ((a2_6.length : Int) > (0 : Int))) then (bif (a2_0 != (4 : Int)) then (J1_1_0_1_0_0 a3 a4 n18 a0_0 a1_0 a1_1 a1_2 a1_3 a2_0 a2_1 a2_2 a2_3 a2_4 a2_5 a2_6) else (bif (a2_0 == (1 : Int)) then (bif (decide (a2_3 < (Neg.neg (1 : Int)))) then (J1_1_0_1_0_0 a3 a4 n18 a0_0 a1_0 a1_1 a1_2 a1_3 a2_0 a2_1 a2_2 a2_3 a2_4 a2_5 a2_6) else (J1_1_1_0_0 a3 a4 n18 a0_0 a1_0 a1_1 a1_2 a1_3 a2_0 a2_1 a2_2 a2_3 a2_4 a2_5 a2_6)) else (J1_1_1_0_0 a3 a4 n18 a0_0 a1_0 a1_1 a1_2 a1_3 a2_0 a2_1 a2_2 a2_3 a2_4 a2_5 a2_6))) else (bif (a2_0 == (1 : Int)) then (bif (decide (a2_3 < (Neg.neg (1 : Int)))) then (J1_1_0_1_0_0 a3 a4 n18 a0_0 a1_0 a1_1 a1_2 a1_3 a2_0 a2_1 a2_2 a2_3 a2_4 a2_5 a2_6) else (J1_1_1_0_0 a3 a4 n18 a0_0 a1_0 a1_1 a1_2 a1_3 a2_0 a2_1 a2_2 a2_3 a2_4 a2_5 a2_6)) else (J1_1_1_0_0 a3 a4 n18 a0_0 a1_0 a1_1 a1_2 a1_3 a2_0 a2_1 a2_2 a2_3 a2_4 a2_5 a2_6)))) else (bif (decide ((a2_6.length : Int) > (0 : Int))) then (bif (a2_0 != (4 : Int)) then (J1_1_0_1_0_0 a3 a4 n18 a0_0 a1_0 a1_1 a1_2 a1_3 a2_0 a2_1 a2_2 a2_3 a2_4 a2_5 a2_6) else (bif (a2_0 == (1 : Int)) then (bif (decide (a2_3 < (Neg.neg (1 : Int)))) then (J1_1_0_1_0_0 a3 a4 n18 a0_0 a1_0 a1_1 a1_2 a1_3 a2_0 a2_1 a2_2 a2_3 a2_4 a2_5 a2_6) else (J1_1_1_0_0 a3 a4 n18 a0_0 a1_0 a1_1 a1_2 a1_3 a2_0 a2_1 a2_2 a2_3 a2_4 a2_5 a2_6)) else (J1_1_1_0_0 a3 a4 n18 a0_0 a1_0 a1_1 a1_2 a1_3 a2_0 a2_1 a2_2 a2_3 a2_4 a2_5 a2_6))) else (bif (a2_0 == (1 : Int)) then (bif (decide (a2_3 < (Neg.neg (1 : Int)))) then (J1_1_0_1_0_0 a3 a4 n18 a0_0 a1_0 a1_1 a1_2 a1_3 a2_0 a2_1 a2_2 a2_3 a2_4 a2_5 a2_6) else (J1_1_1_0_0 a3 a4 n18 a0_0 a1_0 a1_1 a1_2 a1_3 a2_0 a2_1 a2_2 a2_3 a2_4 a2_5 a2_6)) else (J1_1_1_0_0 a3 a4 n18 a0_0 a1_0 a1_1 a1_2 a1_3 a2_0 a2_1 a2_2 a2_3 a2_4 a2_5 a2_6)))) else (bif (decide ((a2_6.length : Int) > (0 : Int))) then (bif (a2_0 != (4 : Int)) then (J1_1_0_1_0_0 a3 a4 n18 a0_0 a1_0 a1_1 a1_2 a1_3 a2_0 a2_1 a2_2 a2_3 a2_4 a2_5 a2_6) else (bif (a2_0 == (1 : Int)) then (bif (decide (a2_3 < (Neg.neg (1 : Int)))) then (J1_1_0_1_0_0 a3 a4 n18 a0_0 a1_0 a1_1 a1_2 a1_3 a2_0 a2_1 a2_2 a2_3 a2_4 a2_5 a2_6) else (J1_1_1_0_0 a3 a4 n18 a0_0 a1_0 a1_1 a1_2 a1_3 a2_0 a2_1 a2_2 a2_3 a2_4 a2_5 a2_6)) else (J1_1_1_0_0 a3 a4 n18 a0_0 a1_0 a1_1 a1_2 a1_3 a2_0 a2_1 a2_2 a2_3 a2_4 a2_5 a2_6))) else (bif (a2_0 == (1 : Int)) then (bif (decide (a2_3 < (Neg.neg (1 : Int)))) then (J1_1_0_1_0_0 a3 a4 n18 a0_0 a1_0 a1_1 a1_2 a1_3 a2_0 a2_1 a2_2 a2_3 a2_4 a2_5 a2_6) else (J1_1_1_0_0 a3 a4 n18 a0_0 a1_0 a1_1 a1_2 a1_3 a2_0 a2_1 a2_2 a2_3 a2_4 a2_5 a2_6)) else (J1_1_1_0_0 a3 a4 n18 a0_0 a1_0 a1_1 a1_2 a1_3 a2_0 a2_1 a2_2 a2_3 a2_4 a2_5 a2_6))))))))) := (den_eq ..).trans (by kernel_rfl)
end ref04_stmt
namespace ref04_Returns
noncomputable abbrev e (p : List Nat) := ev Sp (den Sp) id Tryz.f102.ntmps (cAt (bodyOf Tryz.f102) p)
noncomputable abbrev cn (n0 : List Nat) := canon Sp id n0
noncomputable abbrev K : K := kFin Sp (den Sp) Tryz.f102 0
noncomputable def L1_0_1_0 (l0 : List (List V)) (i1 : Int) : Option Res := LP (e [1, 0, 1, 0, 0]) (cn []) (kBlk 0 (kSeq (e [1, 1]) (K))) ([(0, (V.sl .no T_api_Stmt l0)), (3, (V.int .i64 i1))], ⟨[], [], [], [], none⟩)
theorem L1_0_1_0_eq (l0 : List (List V)) (i1 : Int) : L1_0_1_0 l0 i1 =
    (bif (decide (i1 < (l0.length : Int))) then (if (((0 : Int) ≤ i1) ∧ (i1 < (l0.length : Int))) then (V.asInt (List.getD (List.getD l0 (Int.toNat i1) []) 0 V.undef) .i64 (fun n7 => (bif (n7 == (7 : Int)) then (some ⟨(Out.ret (V.bool true)), [], none⟩) else (if (((0 : Int) ≤ i1) ∧ (i1 < (l0.length : Int))) then (V.asInt (List.getD (List.getD l0 (Int.toNat i1) []) 0 V.undef) .i64 (fun n9 => (bif (n9 == (4 : Int)) then (if (((0 : Int) ≤ i1) ∧ (i1 < (l0.length : Int))) then (V.asSl (List.getD (List.getD l0 (Int.toNat i1) []) 5 V.undef) T_api_Stmt (fun es10 => ((den Sp ref04_Returns.id [(V.sl .no T_api_Stmt es10)] [] none)).bind (fun r11 => (Res.onRet r11 (fun v12 => (V.asBool v12 (fun b13 => (bif b13 then (if (((0 : Int) ≤ i1) ∧ (i1 < (l0.length : Int))) then (V.asSl (List.getD (List.getD l0 (Int.toNat i1) []) 6 V.undef) T_api_Stmt (fun es14 => ((den Sp ref04_Returns.id [(V.sl .no T_api_Stmt es14)] [] none)).bind (fun r15 => (Res.onRet r15 (fun v16 => (V.asBool v16 (fun b17 => (bif b17 then (some ⟨(Out.ret (V.bool true)), [], none⟩) else (L1_0_1_0 l0 (IntKind.wrap .i64 (i1 + (1 : Int)))))))))))) else none) else (L1_0_1_0 l0 (IntKind.wrap .i64 (i1 + (1 : Int)))))))))))) else none) else (L1_0_1_0 l0 (IntKind.wrap .i64 (i1 + (1 : Int))))))) else none)))) else none) else (some ⟨(Out.ret (V.bool false)), [], none⟩)) := (LP_eq ..).trans (by kernel_rfl)
theorem eq (a0 : (List (List V))) : den Sp id [(V.sl .no T_api_Stmt a0)] [] none =
    (L1_0_1_0 a0 (0 : Int)) := (den_eq ..).trans (by kernel_rfl)
end ref04_Returns
namespace ref04_Vars
noncomputable abbrev e (p : List Nat) := ev Sp (den Sp) id Tryz.f56.ntmps (cAt (bodyOf Tryz.f56) p)
noncomputable abbrev cn (n0 : List Nat) := canon Sp id n0
noncomputable abbrev K : K := kFin Sp (den Sp) Tryz.f56 0
noncomputable def L1_1_1_0_1_0 (l0 l1 : List (List V)) (i2 : Int) (s3 : ByteArray) (l4 : List (List V)) (i5 : Int) (l6 : List (List V)) : Option Res := LP (e [1, 1, 1, 0, 1, 0, 0]) (cn [1001]) (kBlk 0 (kSeq (e [1, 1, 1, 1]) (K))) ([(1, (V.ref 1001 0)), (3, (V.sl .no T_parallaxref04_Item l0)), (4, (V.sl (Tok.row 0) T_api_Var l1)), (5, (V.int .i64 i2)), (6, V.undef)], ⟨[(1001, (Blk.cells T_api_Proc [(V.str s3), (V.sl .no T_api_Param l4), (V.int .i64 i5), (V.sl .no T_api_Stmt l6)] false))], [0], [], [], none⟩)
noncomputable def L1_1_1_1_0_1_0 (l0 l1 : List (List V)) (i2 i3 : Int) (s4 : ByteArray) (l5 : List (List V)) (i6 : Int) (l7 : List (List V)) : Option Res := LP (e [1, 1, 1, 1, 0, 1, 0, 0]) (cn [1001]) (kBlk 2 (kSeq (e [1, 1, 1, 1, 1]) (K))) ([(1, (V.ref 1001 0)), (3, (V.sl .no T_parallaxref04_Item l0)), (4, (V.sl (Tok.row 0) T_api_Var l1)), (5, (V.int .i64 i2)), (6, (V.int .i64 i3))], ⟨[(1001, (Blk.cells T_api_Proc [(V.str s4), (V.sl .no T_api_Param l5), (V.int .i64 i6), (V.sl .no T_api_Stmt l7)] false))], [0], [], [], none⟩)
theorem L1_1_1_0_1_0_eq (l0 l1 : List (List V)) (i2 : Int) (s3 : ByteArray) (l4 : List (List V)) (i5 : Int) (l6 : List (List V)) : L1_1_1_0_1_0 l0 l1 i2 s3 l4 i5 l6 =
    (bif (decide (i2 < (l4.length : Int))) then (if (((0 : Int) ≤ i2) ∧ (i2 < (l4.length : Int))) then (V.asStr (List.getD (List.getD l4 (Int.toNat i2) []) 0 V.undef) (fun s20 => (if (((0 : Int) ≤ i2) ∧ (i2 < (l4.length : Int))) then (V.asInt (List.getD (List.getD l4 (Int.toNat i2) []) 1 V.undef) .i64 (fun n21 => (if (((List.length l1) + (List.length [[(V.str s20), (V.int .i64 n21), (V.int .i64 (0 : Int)), (V.int .i64 (0 : Int)), (V.int .i64 (IntKind.wrap .i64 ((l0.length : Int) + (1 : Int))))]])) ≤ most) then (L1_1_1_0_1_0 l0 (l1 ++ [[(V.str s20), (V.int .i64 n21), (V.int .i64 (0 : Int)), (V.int .i64 (0 : Int)), (V.int .i64 (IntKind.wrap .i64 ((l0.length : Int) + (1 : Int))))]]) (IntKind.wrap .i64 (i2 + (1 : Int))) s3 l4 i5 l6) else none))) else none))) else none) else (L1_1_1_1_0_1_0 l0 l1 i2 (0 : Int) s3 l4 i5 l6)) := (LP_eq ..).trans (by kernel_rfl)
theorem L1_1_1_1_0_1_0_eq (l0 l1 : List (List V)) (i2 i3 : Int) (s4 : ByteArray) (l5 : List (List V)) (i6 : Int) (l7 : List (List V)) : L1_1_1_1_0_1_0 l0 l1 i2 i3 s4 l5 i6 l7 =
    (bif (decide (i3 < (l0.length : Int))) then (if (((0 : Int) ≤ i3) ∧ (i3 < (l0.length : Int))) then (V.asInt (List.getD (List.getD l0 (Int.toNat i3) []) 0 V.undef) .i64 (fun n30 => (V.asStr (List.getD (List.getD l0 (Int.toNat i3) []) 1 V.undef) (fun s31 => (V.asStr (List.getD (List.getD l0 (Int.toNat i3) []) 2 V.undef) (fun s32 => (V.asInt (List.getD (List.getD l0 (Int.toNat i3) []) 3 V.undef) .i64 (fun n33 => (V.asSl (List.getD (List.getD l0 (Int.toNat i3) []) 4 V.undef) T_api_Expr (fun es34 => (V.asSl (List.getD (List.getD l0 (Int.toNat i3) []) 5 V.undef) T_api_Stmt (fun es35 => (V.asSl (List.getD (List.getD l0 (Int.toNat i3) []) 6 V.undef) T_api_Stmt (fun es36 => (bif (n30 != (1 : Int)) then (L1_1_1_1_0_1_0 l0 l1 i2 (IntKind.wrap .i64 (i3 + (1 : Int))) s4 l5 i6 l7) else (if (((0 : Int) ≤ i3) ∧ (i3 < (l0.length : Int))) then (V.asInt (List.getD (List.getD l0 (Int.toNat i3) []) 7 V.undef) .i64 (fun n39 => (bif (n33 == (Neg.neg (1 : Int))) then (if (((List.length l1) + (List.length [[(V.str s31), (V.int .i64 (2 : Int)), (V.int .i64 (0 : Int)), (V.int .i64 (IntKind.wrap .i64 (i3 + (2 : Int)))), (V.int .i64 n39)]])) ≤ most) then (L1_1_1_1_0_1_0 l0 (l1 ++ [[(V.str s31), (V.int .i64 (2 : Int)), (V.int .i64 (0 : Int)), (V.int .i64 (IntKind.wrap .i64 (i3 + (2 : Int)))), (V.int .i64 n39)]]) i2 (IntKind.wrap .i64 (i3 + (1 : Int))) s4 l5 i6 l7) else none) else (bif (decide (n33 > (64 : Int))) then (if (((List.length l1) + (List.length [[(V.str s31), (V.int .i64 (1 : Int)), (V.int .i64 (65 : Int)), (V.int .i64 (IntKind.wrap .i64 (i3 + (2 : Int)))), (V.int .i64 n39)]])) ≤ most) then (L1_1_1_1_0_1_0 l0 (l1 ++ [[(V.str s31), (V.int .i64 (1 : Int)), (V.int .i64 (65 : Int)), (V.int .i64 (IntKind.wrap .i64 (i3 + (2 : Int)))), (V.int .i64 n39)]]) i2 (IntKind.wrap .i64 (i3 + (1 : Int))) s4 l5 i6 l7) else none) else (if (((List.length l1) + (List.length [[(V.str s31), (V.int .i64 (1 : Int)), (V.int .i64 n33), (V.int .i64 (IntKind.wrap .i64 (i3 + (2 : Int)))), (V.int .i64 n39)]])) ≤ most) then (L1_1_1_1_0_1_0 l0 (l1 ++ [[(V.str s31), (V.int .i64 (1 : Int)), (V.int .i64 n33), (V.int .i64 (IntKind.wrap .i64 (i3 + (2 : Int)))), (V.int .i64 n39)]]) i2 (IntKind.wrap .i64 (i3 + (1 : Int))) s4 l5 i6 l7) else none))))) else none)))))))))))))))) else none) else (some ⟨(Out.ret (V.sl .no T_api_Var l1)), [], none⟩)) := (LP_eq ..).trans (by kernel_rfl)
theorem eq (a0_0 : ByteArray) (a0_1 : List (List V)) (a0_2 : Int) (a0_3 : List (List V)) : den Sp id [(V.agg [(V.str a0_0), (V.sl .no T_api_Param a0_1), (V.int .i64 a0_2), (V.sl .no T_api_Stmt a0_3)])] [] none =
    ((den Sp ref04_Row.id [(V.sl .no T_api_Stmt a0_3), (V.int .i64 (1 : Int))] [] none)).bind (fun r6 => (Res.onRet r6 (fun v7 => (V.asSl v7 T_parallaxref04_Item (fun es8 => (L1_1_1_0_1_0 es8 [] (0 : Int) a0_0 a0_1 a0_2 a0_3)))))) := (den_eq ..).trans (by kernel_rfl)
end ref04_Vars
namespace ref04_proc
noncomputable abbrev e (p : List Nat) := ev Sp (den Sp) id Tryz.f55.ntmps (cAt (bodyOf Tryz.f55) p)
noncomputable abbrev cn (n0 : List Nat) := canon Sp id n0
noncomputable abbrev K : K := kFin Sp (den Sp) Tryz.f55 0
noncomputable def L1_1_1_0_1_0 (l0 l1 : List (List V)) (s2 : ByteArray) (l3 : List (List V)) (i4 : Int) (l5 : List (List V)) : Option Res := LP (e [1, 1, 1, 0, 1, 0, 0]) (cn [1002, 1003]) (kBlk 0 (kSeq (e [1, 1, 1, 1]) (K))) ([(2, (V.ref 1002 0)), (3, (V.ref 1003 0)), (6, (V.sl .no T_api_Var l0)), (7, (V.int .i64 (0 : Int))), (8, V.undef), (9, V.undef), (10, V.undef)], ⟨[(1002, (Blk.cells T_api_Prog [(V.sl .no T_api_Proc l1)] false)), (1003, (Blk.cells T_api_Proc [(V.str s2), (V.sl .no T_api_Param l3), (V.int .i64 i4), (V.sl .no T_api_Stmt l5)] false))], [], [], [], none⟩)
noncomputable def L1_1_1_0_1_0_0_1_0_0_1_0 (l0 : List (List V)) (i1 i2 : Int) (l3 : List (List V)) (s4 : ByteArray) (l5 : List (List V)) (i6 : Int) (l7 : List (List V)) : Option Res := LP (e [1, 1, 1, 0, 1, 0, 0, 1, 0, 0, 1, 0, 0]) (cn [1002, 1003]) (kBlk 2 (kBlk 1 (kSeq (e [1, 1, 1, 0, 1, 0, 0, 1, 1]) (kLp (e [1, 1, 1, 0, 1, 0, 0]) (cn [1002, 1003]) (kBlk 0 (kSeq (e [1, 1, 1, 1]) (K))))))) ([(2, (V.ref 1002 0)), (3, (V.ref 1003 0)), (6, (V.sl .no T_api_Var l0)), (7, (V.int .i64 i1)), (8, (V.int .i64 i2)), (9, V.undef), (10, V.undef)], ⟨[(1002, (Blk.cells T_api_Prog [(V.sl .no T_api_Proc l3)] false)), (1003, (Blk.cells T_api_Proc [(V.str s4), (V.sl .no T_api_Param l5), (V.int .i64 i6), (V.sl .no T_api_Stmt l7)] false))], [], [], [], none⟩)
noncomputable def L1_1_1_0_1_0v1 (l0 : List (List V)) (i1 i2 : Int) (l3 : List (List V)) (s4 : ByteArray) (l5 : List (List V)) (i6 : Int) (l7 : List (List V)) : Option Res := LP (e [1, 1, 1, 0, 1, 0, 0]) (cn [1002, 1003]) (kBlk 0 (kSeq (e [1, 1, 1, 1]) (K))) ([(2, (V.ref 1002 0)), (3, (V.ref 1003 0)), (6, (V.sl .no T_api_Var l0)), (7, (V.int .i64 i1)), (8, (V.int .i64 i2)), (9, V.undef), (10, V.undef)], ⟨[(1002, (Blk.cells T_api_Prog [(V.sl .no T_api_Proc l3)] false)), (1003, (Blk.cells T_api_Proc [(V.str s4), (V.sl .no T_api_Param l5), (V.int .i64 i6), (V.sl .no T_api_Stmt l7)] false))], [], [], [], none⟩)
noncomputable def L1_1_1_1_1_0_1_0 (l0 : List (List V)) (i1 i2 : Int) (l3 : List (List V)) (i4 : Int) (l5 : List (List V)) (s6 : ByteArray) (l7 : List (List V)) (i8 : Int) (l9 : List (List V)) : Option Res := LP (e [1, 1, 1, 1, 1, 0, 1, 0, 0]) (cn [1002, 1003]) (kBlk 4 (kSeq (e [1, 1, 1, 1, 1, 1]) (K))) ([(2, (V.ref 1002 0)), (3, (V.ref 1003 0)), (6, (V.sl .no T_api_Var l0)), (7, (V.int .i64 i1)), (8, (V.int .i64 i2)), (9, (V.sl .no T_parallaxref04_Item l3)), (10, (V.int .i64 i4))], ⟨[(1002, (Blk.cells T_api_Prog [(V.sl .no T_api_Proc l5)] false)), (1003, (Blk.cells T_api_Proc [(V.str s6), (V.sl .no T_api_Param l7), (V.int .i64 i8), (V.sl .no T_api_Stmt l9)] false))], [], [], [], none⟩)
noncomputable def L1_1_1_1_1_0_1_0v1 (l0 l1 : List (List V)) (i2 : Int) (l3 : List (List V)) (s4 : ByteArray) (l5 : List (List V)) (i6 : Int) (l7 : List (List V)) : Option Res := LP (e [1, 1, 1, 1, 1, 0, 1, 0, 0]) (cn [1002, 1003]) (kBlk 4 (kSeq (e [1, 1, 1, 1, 1, 1]) (K))) ([(2, (V.ref 1002 0)), (3, (V.ref 1003 0)), (6, (V.sl .no T_api_Var l0)), (7, (V.int .i64 (0 : Int))), (8, V.undef), (9, (V.sl .no T_parallaxref04_Item l1)), (10, (V.int .i64 i2))], ⟨[(1002, (Blk.cells T_api_Prog [(V.sl .no T_api_Proc l3)] false)), (1003, (Blk.cells T_api_Proc [(V.str s4), (V.sl .no T_api_Param l5), (V.int .i64 i6), (V.sl .no T_api_Stmt l7)] false))], [], [], [], none⟩)
theorem L1_1_1_0_1_0_eq (l0 l1 : List (List V)) (s2 : ByteArray) (l3 : List (List V)) (i4 : Int) (l5 : List (List V)) : L1_1_1_0_1_0 l0 l1 s2 l3 i4 l5 =
    (bif (decide ((0 : Int) < (l0.length : Int))) then (L1_1_1_0_1_0_0_1_0_0_1_0 l0 (0 : Int) (0 : Int) l1 s2 l3 i4 l5) else ((den Sp ref04_Row.id [(V.sl .no T_api_Stmt l5), (V.int .i64 (1 : Int))] [] none)).bind (fun r20 => (Res.onRet r20 (fun v21 => (V.asSl v21 T_parallaxref04_Item (fun es22 => (L1_1_1_1_1_0_1_0v1 l0 es22 (0 : Int) l1 s2 l3 i4 l5))))))) := (LP_eq ..).trans (by kernel_rfl)
theorem L1_1_1_0_1_0_0_1_0_0_1_0_eq (l0 : List (List V)) (i1 i2 : Int) (l3 : List (List V)) (s4 : ByteArray) (l5 : List (List V)) (i6 : Int) (l7 : List (List V)) : L1_1_1_0_1_0_0_1_0_0_1_0 l0 i1 i2 l3 s4 l5 i6 l7 =
    (bif (decide (i2 < i1)) then (if (((0 : Int) ≤ i2) ∧ (i2 < (l0.length : Int))) then (V.asStr (List.getD (List.getD l0 (Int.toNat i2) []) 0 V.undef) (fun s30 => (if (((0 : Int) ≤ i1) ∧ (i1 < (l0.length : Int))) then (V.asStr (List.getD (List.getD l0 (Int.toNat i1) []) 0 V.undef) (fun s31 => (bif (decide (s30 = s31)) then (some ⟨(Out.ret (V.tup [(V.int .i64 (0 : Int)), (V.int .i64 (40 : Int))])), [], none⟩) else (L1_1_1_0_1_0_0_1_0_0_1_0 l0 i1 (IntKind.wrap .i64 (i2 + (1 : Int))) l3 s4 l5 i6 l7)))) else none))) else none) else (L1_1_1_0_1_0v1 l0 (IntKind.wrap .i64 (i1 + (1 : Int))) i2 l3 s4 l5 i6 l7)) := (LP_eq ..).trans (by kernel_rfl)
theorem L1_1_1_0_1_0v1_eq (l0 : List (List V)) (i1 i2 : Int) (l3 : List (List V)) (s4 : ByteArray) (l5 : List (List V)) (i6 : Int) (l7 : List (List V)) : L1_1_1_0_1_0v1 l0 i1 i2 l3 s4 l5 i6 l7 =
    (bif (decide (i1 < (l0.length : Int))) then (L1_1_1_0_1_0_0_1_0_0_1_0 l0 i1 (0 : Int) l3 s4 l5 i6 l7) else ((den Sp ref04_Row.id [(V.sl .no T_api_Stmt l7), (V.int .i64 (1 : Int))] [] none)).bind (fun r40 => (Res.onRet r40 (fun v41 => (V.asSl v41 T_parallaxref04_Item (fun es42 => (L1_1_1_1_1_0_1_0 l0 i1 i2 es42 (0 : Int) l3 s4 l5 i6 l7))))))) := (LP_eq ..).trans (by kernel_rfl)
theorem L1_1_1_1_1_0_1_0_eq (l0 : List (List V)) (i1 i2 : Int) (l3 : List (List V)) (i4 : Int) (l5 : List (List V)) (s6 : ByteArray) (l7 : List (List V)) (i8 : Int) (l9 : List (List V)) : L1_1_1_1_1_0_1_0 l0 i1 i2 l3 i4 l5 s6 l7 i8 l9 =
    (bif (decide (i4 < (l3.length : Int))) then (if (((0 : Int) ≤ i4) ∧ (i4 < (l3.length : Int))) then (V.asInt (List.getD (List.getD l3 (Int.toNat i4) []) 0 V.undef) .i64 (fun n56 => (V.asStr (List.getD (List.getD l3 (Int.toNat i4) []) 1 V.undef) (fun s57 => (V.asStr (List.getD (List.getD l3 (Int.toNat i4) []) 2 V.undef) (fun s58 => (V.asInt (List.getD (List.getD l3 (Int.toNat i4) []) 3 V.undef) .i64 (fun n59 => (V.asSl (List.getD (List.getD l3 (Int.toNat i4) []) 4 V.undef) T_api_Expr (fun es60 => (V.asSl (List.getD (List.getD l3 (Int.toNat i4) []) 5 V.undef) T_api_Stmt (fun es61 => (V.asSl (List.getD (List.getD l3 (Int.toNat i4) []) 6 V.undef) T_api_Stmt (fun es62 => ((den Sp ref04_stmt.id [(V.agg [(V.sl .no T_api_Proc l5)]), (V.agg [(V.str s6), (V.sl .no T_api_Param l7), (V.int .i64 i8), (V.sl .no T_api_Stmt l9)]), (V.agg [(V.int .i64 n56), (V.str s57), (V.str s58), (V.int .i64 n59), (V.sl .no T_api_Expr es60), (V.sl .no T_api_Stmt es61), (V.sl .no T_api_Stmt es62)]), (V.sl .no T_api_Var l0), (V.int .i64 (IntKind.wrap .i64 (i4 + (1 : Int))))] [] none)).bind (fun r63 => (Res.onRet r63 (fun v64 => (V.asInt v64 .i64 (fun n65 => (bif (n65 != (0 : Int)) then (some ⟨(Out.ret (V.tup [(V.int .i64 (IntKind.wrap .i64 (i4 + (1 : Int)))), (V.int .i64 n65)])), [], none⟩) else (L1_1_1_1_1_0_1_0 l0 i1 i2 l3 (IntKind.wrap .i64 (i4 + (1 : Int))) l5 s6 l7 i8 l9))))))))))))))))))))) else none) else (bif (i8 != (0 : Int)) then ((den Sp ref04_Returns.id [(V.sl .no T_api_Stmt l9)] [] none)).bind (fun r56 => (Res.onRet r56 (fun v57 => (V.asBool v57 (fun b58 => (bif (!b58) then (some ⟨(Out.ret (V.tup [(V.int .i64 (IntKind.wrap .i64 ((l3.length : Int) + (1 : Int)))), (V.int .i64 (43 : Int))])), [], none⟩) else (some ⟨(Out.ret (V.tup [(V.int .i64 (0 : Int)), (V.int .i64 (0 : Int))])), [], none⟩))))))) else (some ⟨(Out.ret (V.tup [(V.int .i64 (0 : Int)), (V.int .i64 (0 : Int))])), [], none⟩))) := (LP_eq ..).trans (by kernel_rfl)
theorem L1_1_1_1_1_0_1_0v1_eq (l0 l1 : List (List V)) (i2 : Int) (l3 : List (List V)) (s4 : ByteArray) (l5 : List (List V)) (i6 : Int) (l7 : List (List V)) : L1_1_1_1_1_0_1_0v1 l0 l1 i2 l3 s4 l5 i6 l7 =
    (bif (decide (i2 < (l1.length : Int))) then (if (((0 : Int) ≤ i2) ∧ (i2 < (l1.length : Int))) then (V.asInt (List.getD (List.getD l1 (Int.toNat i2) []) 0 V.undef) .i64 (fun n34 => (V.asStr (List.getD (List.getD l1 (Int.toNat i2) []) 1 V.undef) (fun s35 => (V.asStr (List.getD (List.getD l1 (Int.toNat i2) []) 2 V.undef) (fun s36 => (V.asInt (List.getD (List.getD l1 (Int.toNat i2) []) 3 V.undef) .i64 (fun n37 => (V.asSl (List.getD (List.getD l1 (Int.toNat i2) []) 4 V.undef) T_api_Expr (fun es38 => (V.asSl (List.getD (List.getD l1 (Int.toNat i2) []) 5 V.undef) T_api_Stmt (fun es39 => (V.asSl (List.getD (List.getD l1 (Int.toNat i2) []) 6 V.undef) T_api_Stmt (fun es40 => ((den Sp ref04_stmt.id [(V.agg [(V.sl .no T_api_Proc l3)]), (V.agg [(V.str s4), (V.sl .no T_api_Param l5), (V.int .i64 i6), (V.sl .no T_api_Stmt l7)]), (V.agg [(V.int .i64 n34), (V.str s35), (V.str s36), (V.int .i64 n37), (V.sl .no T_api_Expr es38), (V.sl .no T_api_Stmt es39), (V.sl .no T_api_Stmt es40)]), (V.sl .no T_api_Var l0), (V.int .i64 (IntKind.wrap .i64 (i2 + (1 : Int))))] [] none)).bind (fun r41 => (Res.onRet r41 (fun v42 => (V.asInt v42 .i64 (fun n43 => (bif (n43 != (0 : Int)) then (some ⟨(Out.ret (V.tup [(V.int .i64 (IntKind.wrap .i64 (i2 + (1 : Int)))), (V.int .i64 n43)])), [], none⟩) else (L1_1_1_1_1_0_1_0v1 l0 l1 (IntKind.wrap .i64 (i2 + (1 : Int))) l3 s4 l5 i6 l7))))))))))))))))))))) else none) else (bif (i6 != (0 : Int)) then ((den Sp ref04_Returns.id [(V.sl .no T_api_Stmt l7)] [] none)).bind (fun r34 => (Res.onRet r34 (fun v35 => (V.asBool v35 (fun b36 => (bif (!b36) then (some ⟨(Out.ret (V.tup [(V.int .i64 (IntKind.wrap .i64 ((l1.length : Int) + (1 : Int)))), (V.int .i64 (43 : Int))])), [], none⟩) else (some ⟨(Out.ret (V.tup [(V.int .i64 (0 : Int)), (V.int .i64 (0 : Int))])), [], none⟩))))))) else (some ⟨(Out.ret (V.tup [(V.int .i64 (0 : Int)), (V.int .i64 (0 : Int))])), [], none⟩))) := (LP_eq ..).trans (by kernel_rfl)
theorem eq (a0_0 : List (List V)) (a1_0 : ByteArray) (a1_1 : List (List V)) (a1_2 : Int) (a1_3 : List (List V)) : den Sp id [(V.agg [(V.sl .no T_api_Proc a0_0)]), (V.agg [(V.str a1_0), (V.sl .no T_api_Param a1_1), (V.int .i64 a1_2), (V.sl .no T_api_Stmt a1_3)])] [] none =
    ((den Sp ref04_Vars.id [(V.agg [(V.str a1_0), (V.sl .no T_api_Param a1_1), (V.int .i64 a1_2), (V.sl .no T_api_Stmt a1_3)])] [] none)).bind (fun r7 => (Res.onRet r7 (fun v8 => (V.asSl v8 T_api_Var (fun es9 => (bif (decide ((a1_1.length : Int) > (8 : Int))) then (some ⟨(Out.ret (V.tup [(V.int .i64 (0 : Int)), (V.int .i64 (2 : Int))])), [], none⟩) else (bif (decide ((es9.length : Int) > (60 : Int))) then (some ⟨(Out.ret (V.tup [(V.int .i64 (0 : Int)), (V.int .i64 (2 : Int))])), [], none⟩) else (L1_1_1_0_1_0 es9 a0_0 a1_0 a1_1 a1_2 a1_3)))))))) := (den_eq ..).trans (by kernel_rfl)
end ref04_proc
namespace ref04_Check
noncomputable abbrev e (p : List Nat) := ev Sp (den Sp) id Tryz.f25.ntmps (cAt (bodyOf Tryz.f25) p)
noncomputable abbrev cn (n0 : List Nat) := canon Sp id n0
noncomputable abbrev K : K := kFin Sp (den Sp) Tryz.f25 0
noncomputable def L1_1_1_0_1_0 (l0 : (List (List V))) : Option Res := LP (e [1, 1, 1, 0, 1, 0, 0]) (cn [1001, 1002, 1003]) (kBlk 0 (kSeq (e [1, 1, 1, 1]) (K))) ([(1, (V.ref 1001 0)), (2, (V.ref 1002 0)), (3, (V.ref 1003 0)), (5, (V.bool false)), (6, (V.int .i64 (0 : Int))), (7, V.undef), (8, V.undef), (9, V.undef), (10, V.undef)], ⟨[(1001, (Blk.cells T_api_Prog [(V.sl .no T_api_Proc l0)] false)), (1002, (Blk.cells T_parallaxref04_Info [(V.sl (Tok.row 0) T_L_api_Var []), (V.sl (Tok.row 1) T_int [])] false)), (1003, (Blk.cells T_parallaxref04_Place [(V.int .i64 (0 : Int)), (V.int .i64 (0 : Int))] false))], [0, 1], [], [], none⟩)
noncomputable def L1_1_1_0_1_0_0_1_0_0_1_1_1_0 (b0 : Bool) (i1 i2 : Int) (l3 : List (List V)) (s4 : ByteArray) (l5 : List (List V)) (i6 : Int) (l7 : List (List V)) : Option Res := LP (e [1, 1, 1, 0, 1, 0, 0, 1, 0, 0, 1, 1, 1, 0, 0]) (cn [1001, 1002, 1003, 1007]) (kBlk 2 (kBlk 1 (kSeq (e [1, 1, 1, 0, 1, 0, 0, 1, 1]) (kLp (e [1, 1, 1, 0, 1, 0, 0]) (cn [1001, 1002, 1003]) (kBlk 0 (kSeq (e [1, 1, 1, 1]) (K))))))) ([(1, (V.ref 1001 0)), (2, (V.ref 1002 0)), (3, (V.ref 1003 0)), (5, (V.bool b0)), (6, (V.int .i64 i1)), (7, (V.ref 1007 0)), (8, (V.int .i64 i2)), (9, V.undef), (10, V.undef)], ⟨[(1001, (Blk.cells T_api_Prog [(V.sl .no T_api_Proc l3)] false)), (1002, (Blk.cells T_parallaxref04_Info [(V.sl (Tok.row 0) T_L_api_Var []), (V.sl (Tok.row 1) T_int [])] false)), (1003, (Blk.cells T_parallaxref04_Place [(V.int .i64 (0 : Int)), (V.int .i64 (0 : Int))] false)), (1007, (Blk.cells T_api_Proc [(V.str s4), (V.sl .no T_api_Param l5), (V.int .i64 i6), (V.sl .no T_api_Stmt l7)] false))], [0, 1], [], [], none⟩)
noncomputable def L1_1_1_0_1_0v1 (b0 : Bool) (i1 i2 : Int) (l3 : List (List V)) : Option Res := LP (e [1, 1, 1, 0, 1, 0, 0]) (cn [1001, 1002, 1003]) (kBlk 0 (kSeq (e [1, 1, 1, 1]) (K))) ([(1, (V.ref 1001 0)), (2, (V.ref 1002 0)), (3, (V.ref 1003 0)), (5, (V.bool b0)), (6, (V.int .i64 i1)), (7, V.undef), (8, (V.int .i64 i2)), (9, V.undef), (10, V.undef)], ⟨[(1001, (Blk.cells T_api_Prog [(V.sl .no T_api_Proc l3)] false)), (1002, (Blk.cells T_parallaxref04_Info [(V.sl (Tok.row 0) T_L_api_Var []), (V.sl (Tok.row 1) T_int [])] false)), (1003, (Blk.cells T_parallaxref04_Place [(V.int .i64 (0 : Int)), (V.int .i64 (0 : Int))] false))], [0, 1], [], [], none⟩)
noncomputable def L1_1_1_1_1_1_0_1_0 (b0 : Bool) (i1 i2 i3 : Int) (l4 l5 l6 : List (List V)) : Option Res := LP (e [1, 1, 1, 1, 1, 1, 0, 1, 0, 0]) (cn [1001, 1002, 1003, 1009]) (kBlk 4 (kSeq (e [1, 1, 1, 1, 1, 1, 1]) (K))) ([(1, (V.ref 1001 0)), (2, (V.ref 1002 0)), (3, (V.ref 1003 0)), (5, (V.bool b0)), (6, (V.int .i64 i1)), (7, V.undef), (8, (V.int .i64 i2)), (9, (V.ref 1009 0)), (10, (V.int .i64 i3))], ⟨[(1001, (Blk.cells T_api_Prog [(V.sl .no T_api_Proc l4)] false)), (1002, (Blk.cells T_parallaxref04_Info [(V.sl (Tok.row 0) T_L_api_Var []), (V.sl (Tok.row 1) T_int [])] false)), (1003, (Blk.cells T_parallaxref04_Place [(V.int .i64 (0 : Int)), (V.int .i64 (0 : Int))] false)), (1009, (Blk.cells T_parallaxref04_Info [(V.sl (Tok.row 2) T_L_api_Var l5), (V.sl (Tok.row 3) T_int l6)] false))], [0, 1, 2, 3], [], [], none⟩)
theorem L1_1_1_0_1_0_eq (l0 : (List (List V))) : L1_1_1_0_1_0 l0 =
    (bif (decide ((0 : Int) < (l0.length : Int))) then (if (((0 : Int) ≤ (0 : Int)) ∧ ((0 : Int) < (l0.length : Int))) then (V.asStr (List.getD (List.getD l0 0 []) 0 V.undef) (fun s8 => (V.asSl (List.getD (List.getD l0 0 []) 1 V.undef) T_api_Param (fun es9 => (V.asInt (List.getD (List.getD l0 0 []) 2 V.undef) .i64 (fun n10 => (V.asSl (List.getD (List.getD l0 0 []) 3 V.undef) T_api_Stmt (fun es11 => (bif (decide (s8 = (ByteArray.mk #[109, 97, 105, 110]))) then (bif ((es9.length : Int) == (0 : Int)) then (L1_1_1_0_1_0_0_1_0_0_1_1_1_0 (n10 == (0 : Int)) (0 : Int) (0 : Int) l0 s8 es9 n10 es11) else (L1_1_1_0_1_0_0_1_0_0_1_1_1_0 false (0 : Int) (0 : Int) l0 s8 es9 n10 es11)) else (L1_1_1_0_1_0_0_1_0_0_1_1_1_0 false (0 : Int) (0 : Int) l0 s8 es9 n10 es11)))))))))) else none) else (some ⟨(Out.ret (V.tup [(V.agg [(V.sl .no T_L_api_Var []), (V.sl .no T_int [])]), (V.agg [(V.int .i64 (0 : Int)), (V.int .i64 (0 : Int))]), (V.int .i64 (42 : Int))])), [], none⟩)) := (LP_eq ..).trans (by kernel_rfl)
theorem L1_1_1_0_1_0_0_1_0_0_1_1_1_0_eq (b0 : Bool) (i1 i2 : Int) (l3 : List (List V)) (s4 : ByteArray) (l5 : List (List V)) (i6 : Int) (l7 : List (List V)) : L1_1_1_0_1_0_0_1_0_0_1_1_1_0 b0 i1 i2 l3 s4 l5 i6 l7 =
    (bif (decide (i2 < i1)) then (if (((0 : Int) ≤ i2) ∧ (i2 < (l3.length : Int))) then (V.asStr (List.getD (List.getD l3 (Int.toNat i2) []) 0 V.undef) (fun s24 => (bif (decide (s24 = s4)) then (some ⟨(Out.ret (V.tup [(V.agg [(V.sl .no T_L_api_Var []), (V.sl .no T_int [])]), (V.agg [(V.int .i64 (0 : Int)), (V.int .i64 (0 : Int))]), (V.int .i64 (40 : Int))])), [], none⟩) else (L1_1_1_0_1_0_0_1_0_0_1_1_1_0 b0 i1 (IntKind.wrap .i64 (i2 + (1 : Int))) l3 s4 l5 i6 l7)))) else none) else (L1_1_1_0_1_0v1 b0 (IntKind.wrap .i64 (i1 + (1 : Int))) i2 l3)) := (LP_eq ..).trans (by kernel_rfl)
theorem L1_1_1_0_1_0v1_eq (b0 : Bool) (i1 i2 : Int) (l3 : List (List V)) : L1_1_1_0_1_0v1 b0 i1 i2 l3 =
    (bif (decide (i1 < (l3.length : Int))) then (if (((0 : Int) ≤ i1) ∧ (i1 < (l3.length : Int))) then (V.asStr (List.getD (List.getD l3 (Int.toNat i1) []) 0 V.undef) (fun s30 => (V.asSl (List.getD (List.getD l3 (Int.toNat i1) []) 1 V.undef) T_api_Param (fun es31 => (V.asInt (List.getD (List.getD l3 (Int.toNat i1) []) 2 V.undef) .i64 (fun n32 => (V.asSl (List.getD (List.getD l3 (Int.toNat i1) []) 3 V.undef) T_api_Stmt (fun es33 => (bif b0 then (L1_1_1_0_1_0_0_1_0_0_1_1_1_0 true i1 (0 : Int) l3 s30 es31 n32 es33) else (bif (decide (s30 = (ByteArray.mk #[109, 97, 105, 110]))) then (bif ((es31.length : Int) == (0 : Int)) then (L1_1_1_0_1_0_0_1_0_0_1_1_1_0 (n32 == (0 : Int)) i1 (0 : Int) l3 s30 es31 n32 es33) else (L1_1_1_0_1_0_0_1_0_0_1_1_1_0 false i1 (0 : Int) l3 s30 es31 n32 es33)) else (L1_1_1_0_1_0_0_1_0_0_1_1_1_0 false i1 (0 : Int) l3 s30 es31 n32 es33))))))))))) else none) else (bif (!b0) then (some ⟨(Out.ret (V.tup [(V.agg [(V.sl .no T_L_api_Var []), (V.sl .no T_int [])]), (V.agg [(V.int .i64 (0 : Int)), (V.int .i64 (0 : Int))]), (V.int .i64 (42 : Int))])), [], none⟩) else (L1_1_1_1_1_1_0_1_0 b0 i1 i2 (0 : Int) l3 [] []))) := (LP_eq ..).trans (by kernel_rfl)
theorem L1_1_1_1_1_1_0_1_0_eq (b0 : Bool) (i1 i2 i3 : Int) (l4 l5 l6 : List (List V)) : L1_1_1_1_1_1_0_1_0 b0 i1 i2 i3 l4 l5 l6 =
    (bif (decide (i3 < (l4.length : Int))) then (if (((0 : Int) ≤ i3) ∧ (i3 < (l4.length : Int))) then (V.asStr (List.getD (List.getD l4 (Int.toNat i3) []) 0 V.undef) (fun s41 => (V.asSl (List.getD (List.getD l4 (Int.toNat i3) []) 1 V.undef) T_api_Param (fun es42 => (V.asInt (List.getD (List.getD l4 (Int.toNat i3) []) 2 V.undef) .i64 (fun n43 => (V.asSl (List.getD (List.getD l4 (Int.toNat i3) []) 3 V.undef) T_api_Stmt (fun es44 => ((den Sp ref04_proc.id [(V.agg [(V.sl .no T_api_Proc l4)]), (V.agg [(V.str s41), (V.sl .no T_api_Param es42), (V.int .i64 n43), (V.sl .no T_api_Stmt es44)])] [] none)).bind (fun r45 => (Res.onRet r45 (fun v46 => (V.asTup v46 2 (fun rd47 => (V.asInt (rd47 0) .i64 (fun n48 => (V.asInt (rd47 1) .i64 (fun n49 => (bif (n49 != (0 : Int)) then (some ⟨(Out.ret (V.tup [(V.agg [(V.sl .no T_L_api_Var []), (V.sl .no T_int [])]), (V.agg [(V.int .i64 i3), (V.int .i64 n48)]), (V.int .i64 n49)])), [], none⟩) else (if (((0 : Int) ≤ i3) ∧ (i3 < (l4.length : Int))) then (V.asStr (List.getD (List.getD l4 (Int.toNat i3) []) 0 V.undef) (fun s52 => (V.asSl (List.getD (List.getD l4 (Int.toNat i3) []) 1 V.undef) T_api_Param (fun es53 => (V.asInt (List.getD (List.getD l4 (Int.toNat i3) []) 2 V.undef) .i64 (fun n54 => (V.asSl (List.getD (List.getD l4 (Int.toNat i3) []) 3 V.undef) T_api_Stmt (fun es55 => ((den Sp ref04_Vars.id [(V.agg [(V.str s52), (V.sl .no T_api_Param es53), (V.int .i64 n54), (V.sl .no T_api_Stmt es55)])] [] none)).bind (fun r56 => (Res.onRet r56 (fun v57 => (V.asSl v57 T_api_Var (fun es58 => (if (((List.length l5) + (List.length [[(V.sl .no T_api_Var es58)]])) ≤ most) then (if (((0 : Int) ≤ i3) ∧ (i3 < (l4.length : Int))) then (V.asSl (List.getD (List.getD l4 (Int.toNat i3) []) 3 V.undef) T_api_Stmt (fun es60 => ((den Sp ref04_total.id [(V.sl .no T_api_Stmt es60)] [] none)).bind (fun r61 => (Res.onRet r61 (fun v62 => (V.asInt v62 .i64 (fun n63 => (if (((List.length l6) + (List.length [[(V.int .i64 n63)]])) ≤ most) then (L1_1_1_1_1_1_0_1_0 b0 i1 i2 (IntKind.wrap .i64 (i3 + (1 : Int))) l4 (l5 ++ [[(V.sl .no T_api_Var es58)]]) (l6 ++ [[(V.int .i64 n63)]])) else none)))))))) else none) else none)))))))))))))) else none))))))))))))))))))) else none) else (some ⟨(Out.ret (V.tup [(V.agg [(V.sl .no T_L_api_Var l5), (V.sl .no T_int l6)]), (V.agg [(V.int .i64 (0 : Int)), (V.int .i64 (0 : Int))]), (V.int .i64 (0 : Int))])), [], none⟩)) := (LP_eq ..).trans (by kernel_rfl)
theorem eq (a0_0 : (List (List V))) : den Sp id [(V.agg [(V.sl .no T_api_Proc a0_0)])] [] none =
    (bif (decide ((a0_0.length : Int) > (40 : Int))) then (some ⟨(Out.ret (V.tup [(V.agg [(V.sl .no T_L_api_Var []), (V.sl .no T_int [])]), (V.agg [(V.int .i64 (0 : Int)), (V.int .i64 (0 : Int))]), (V.int .i64 (2 : Int))])), [], none⟩) else (L1_1_1_0_1_0 a0_0)) := (den_eq ..).trans (by kernel_rfl)
end ref04_Check
end Go.Proofs.YtmhnmelaodhemaaGreatDoor
namespace Go.Proofs.YtmhnmelaodhemaaGreatDoor
open Go Go.Proofs.Ab Go.Proofs.Px
set_option linter.unusedVariables false
set_option linter.unusedSimpArgs false
set_option maxRecDepth 100000
theorem ref04_Find_is (vs : List Vr) (hl : vs.length ≤ 140737488351232) (name : List UInt8) (mark : Int) : den Sp ref04_Find.id [.sl .no T_api_Var (vs.map Vr.v), .str (B name), .int .i64 mark] [] none = some ⟨.ret (.int .i64 (findI name mark vs 0)), [], none⟩ := by
  have key : ∀ i : Nat, i ≤ vs.length → ref04_Find.L1_0_1_0 (vs.map Vr.v) (B name) mark (i : Int) = some ⟨.ret (.int .i64 (findI name mark (vs.drop i) (i : Int))), [], none⟩ := by
    refine down ?_ fun i hi ih => ?_
    · rw [ref04_Find.L1_0_1_0_eq]; simp [findI]
    · rw [ref04_Find.L1_0_1_0_eq, List.drop_eq_getElem_cons hi, findI]
      unfold scopeP
      simp only [Int.natCast_add, Int.natCast_one] at ih
      by_cases h1 : vs[i].name = name <;> by_cases h2 : vs[i].frm ≤ mark <;> by_cases h3 : mark ≤ vs[i].to <;> simp (disch := omega) [hi, wrap_in, h1, h2, h3, ih]
  rw [ref04_Find.eq]
  simpa using key 0 (Nat.zero_le _)
def oneP (s : List UInt8) : Int × Int :=
  if s = [43] ∨ s = [45] ∨ s = [42] ∨ s = [47] ∨ s = [37] then (1, 1)
  else if s = [60] ∨ s = [60, 61] then (1, 2)
  else if s = [38, 38] ∨ s = [124, 124] then (2, 2)
  else if s = [61, 61] ∨ s = [33, 61] then (3, 2)
  else (0, 0)
theorem ref04_one_is (s : List UInt8) : den Sp ref04_one.id [.str (B s)] [] none = some ⟨.ret (.tup [.int .i64 (oneP s).1, .int .i64 (oneP s).2]), [], none⟩ := by
  rw [ref04_one.eq]
  unfold oneP
  by_cases h0 : s = [43]
  · subst h0; simp
  by_cases h1 : s = [45]
  · subst h1; simp
  by_cases h2 : s = [42]
  · subst h2; simp
  by_cases h3 : s = [47]
  · subst h3; simp
  by_cases h4 : s = [37]
  · subst h4; simp
  by_cases h5 : s = [60]
  · subst h5; simp
  by_cases h6 : s = [60, 61]
  · subst h6; simp
  by_cases h7 : s = [38, 38]
  · subst h7; simp
  by_cases h8 : s = [124, 124]
  · subst h8; simp
  by_cases h9 : s = [61, 61]
  · subst h9; simp
  by_cases h10 : s = [33, 61]
  · subst h10; simp
  simp [h0, h1, h2, h3, h4, h5, h6, h7, h8, h9, h10]
theorem one_two (s : List UInt8) (a b : Int) : twoT s a b = if (oneP s).2 = 0 then (32, 0) else if a ≠ b then (41, 0) else if (oneP s).1 ≠ 3 then (if a ≠ (oneP s).1 then (41, 0) else (0, (oneP s).2)) else (0, (oneP s).2) := by
  unfold twoT oneP
  by_cases c1 : s = [43] ∨ s = [45] ∨ s = [42] ∨ s = [47] ∨ s = [37]
  · simp only [if_pos c1]
    by_cases ha : a = 1 <;> by_cases hb : a = b <;> simp [ha, hb] <;> simp_all <;> omega
  by_cases c2 : s = [60] ∨ s = [60, 61]
  · simp only [if_neg c1, if_pos c2]
    by_cases ha : a = 1 <;> by_cases hb : a = b <;> simp [ha, hb] <;> simp_all <;> omega
  by_cases c3 : s = [38, 38] ∨ s = [124, 124]
  · simp only [if_neg c1, if_neg c2, if_pos c3]
    by_cases ha : a = 2 <;> by_cases hb : a = b <;> simp [ha, hb] <;> simp_all <;> omega
  by_cases c4 : s = [61, 61] ∨ s = [33, 61]
  · simp only [if_neg c1, if_neg c2, if_neg c3, if_pos c4]
    by_cases hb : a = b <;> simp [hb]
  simp only [if_neg c1, if_neg c2, if_neg c3, if_neg c4, if_true]
theorem tyP_err {vs : List Vr} {m : Int} {x : Ex} (h : (tyP vs m x).1 ≠ 0) : (tyP vs m x).2 = 0 := by
  have t2 : ∀ s a b, (twoT s a b).1 ≠ 0 → (twoT s a b).2 = 0 := fun s a b => by
    unfold twoT
    repeat' split
    all_goals simp
  obtain ⟨k, s, n, l⟩ := x
  rw [tyP] at h ⊢
  unfold tyK at h ⊢
  revert h
  repeat' split
  all_goals first | (intro h; rfl) | (intro h; exact t2 _ _ _ h) | (intro h; exact absurd rfl h) | simp
theorem ref04_TypeOf_is (vs : List Vr) (hl : vs.length ≤ 140737488351232) (mark : Int) : ∀ x : Ex, den Sp ref04_TypeOf.id [.agg x.v, .sl .no T_api_Var (vs.map Vr.v), .int .i64 mark] [] none = some ⟨.ret (.tup [.int .i64 (tyP vs mark x).2, .int .i64 (tyP vs mark x).1]), [], none⟩ := by
  refine Ex.ind fun k s m l ih => ?_
  have ef := ref04_Find_is vs hl s mark
  have eo := ref04_one_is s
  have et : ∀ y ∈ l, ∀ t a, den Sp ref04_typed.id [.agg y.v, .sl .no T_api_Var (vs.map Vr.v), .int .i64 mark, .int .i64 t, .int .i64 a] [] none = some ⟨.ret (.tup (if (tyP vs mark y).1 ≠ 0 then [.int .i64 0, .int .i64 (tyP vs mark y).1] else if (tyP vs mark y).2 ≠ t then [.int .i64 0, .int .i64 41] else [.int .i64 a, .int .i64 0])), [], none⟩ := fun y hy t a => by
    have hy' := ih y hy
    rw [Ex.v_is] at hy' ⊢
    rw [ref04_typed.eq, hy']
    by_cases c1 : (tyP vs mark y).1 = 0
    · by_cases c2 : (tyP vs mark y).2 = t <;> simp [c1, c2]
    · simp [c1]
  rw [Ex.v_mk, ref04_TypeOf.eq, tyP]
  unfold tyK
  by_cases k0 : k < 1 ∨ 6 < k
  · have hn : arityP k = -1 := by unfold arityP; rw [if_neg (by omega), if_neg (by omega), if_neg (by omega)]
    have hn' : arityP k ≠ (l.length : Int) := by omega
    rw [if_pos hn']
    rcases k0 with k0 | k0
    · simp [k0, ref04_TypeOf.J1_1_0_1_0_0_eq]
    · simp [k0, show ¬ k < 1 by omega, ref04_TypeOf.J1_1_0_1_0_0_eq]
  by_cases hn : arityP k = (l.length : Int)
  · rw [if_neg (show ¬ (arityP k ≠ (l.length : Int)) from fun c => c hn)]
    rcases arity_forms hn with ⟨rfl, h⟩ | ⟨rfl, h⟩ | ⟨rfl, h⟩ | ⟨rfl, h⟩ | ⟨rfl, h⟩ | ⟨rfl, h⟩
    · obtain rfl := List.eq_nil_of_length_eq_zero h
      by_cases hm : 0 ≤ m
      · simp [ref04_TypeOf.J1_1_1_0_0_eq, ref04_TypeOf.J1_1_1_1_0_0_eq, hm, show ¬ m < 0 by omega]
      · simp [ref04_TypeOf.J1_1_1_0_0_eq, ref04_TypeOf.J1_1_1_0_1_0_0_eq, hm, show m < 0 by omega]
    · obtain rfl := List.eq_nil_of_length_eq_zero h
      by_cases h0 : m = 0
      · simp [ref04_TypeOf.J1_1_1_0_0_eq, ref04_TypeOf.J1_1_1_1_0_0_eq, h0]
      · by_cases h1 : m = 1
        · simp [ref04_TypeOf.J1_1_1_0_0_eq, ref04_TypeOf.J1_1_1_1_0_0_eq, h1]
        · simp [ref04_TypeOf.J1_1_1_0_0_eq, ref04_TypeOf.J1_1_1_0_1_0_0_eq, h0, h1]
    · obtain rfl := List.eq_nil_of_length_eq_zero h
      rcases find_cases s mark vs 0 with ⟨h1, h2⟩ | ⟨j, hj, h1, h2⟩
      · simp [ref04_TypeOf.J1_1_1_0_0_eq, ref04_TypeOf.J1_1_1_1_0_0_eq, ef, h1, h2]
      · by_cases z0 : vs[j].size = 0
        · simp [ref04_TypeOf.J1_1_1_0_0_eq, ref04_TypeOf.J1_1_1_1_0_0_eq, ref04_TypeOf.J1_1_1_1_1_1_0_1_0_1_1_1_0_0_eq, ef, h1, h2, hj, z0]
        · by_cases z1 : 0 < vs[j].size
          · simp [ref04_TypeOf.J1_1_1_0_0_eq, ref04_TypeOf.J1_1_1_1_0_0_eq, ref04_TypeOf.J1_1_1_1_1_1_0_1_0_1_1_0_1_0_0_eq, ef, h1, h2, hj, z0, z1]
          · simp [ref04_TypeOf.J1_1_1_0_0_eq, ref04_TypeOf.J1_1_1_1_0_0_eq, ref04_TypeOf.J1_1_1_1_1_1_0_1_0_1_1_0_1_0_0_eq, ef, h1, h2, hj, z0, z1, show vs[j].size < 0 by omega]
    · obtain ⟨y, rfl⟩ := List.length_eq_one_iff.1 h
      have hy := et y (List.mem_singleton_self y) 1 1
      rcases find_cases s mark vs 0 with ⟨h1, h2⟩ | ⟨j, hj, h1, h2⟩
      · simp [ref04_TypeOf.J1_1_1_0_0_eq, ref04_TypeOf.J1_1_1_1_0_0_eq, ef, h1, h2, tyPs]
      · by_cases z1 : 0 < vs[j].size
        · by_cases c1 : (tyP vs mark y).1 = 0
          · by_cases c2 : (tyP vs mark y).2 = 1 <;> simp [ref04_TypeOf.J1_1_1_0_0_eq, ref04_TypeOf.J1_1_1_1_0_0_eq, ref04_TypeOf.J1_1_1_1_1_1_0_1_0_1_1_1_0_0_eq, ef, h1, h2, hj, z1, show ¬ vs[j].size < 0 by omega, hy, c1, c2, tyPs]
          · simp [ref04_TypeOf.J1_1_1_0_0_eq, ref04_TypeOf.J1_1_1_1_0_0_eq, ref04_TypeOf.J1_1_1_1_1_1_0_1_0_1_1_1_0_0_eq, ef, h1, h2, hj, z1, show ¬ vs[j].size < 0 by omega, hy, c1, tyPs]
        · simp [ref04_TypeOf.J1_1_1_0_0_eq, ref04_TypeOf.J1_1_1_1_0_0_eq, ref04_TypeOf.J1_1_1_1_1_1_0_1_0_1_1_0_1_0_0_eq, ef, h1, h2, hj, z1, tyPs]
    · obtain ⟨y, rfl⟩ := List.length_eq_one_iff.1 h
      have hy := ih y (List.mem_singleton_self y)
      by_cases c1 : (tyP vs mark y).1 = 0
      · by_cases g1 : s = [45]
        · subst g1
          by_cases c2 : (tyP vs mark y).2 = 1 <;> simp [ref04_TypeOf.J1_1_1_0_0_eq, ref04_TypeOf.J1_1_1_1_0_0_eq, ref04_TypeOf.J1_1_1_1_1_1_1_1_1_0_1_0_1_0_0_eq, ref04_TypeOf.J1_1_1_1_1_1_1_1_1_0_1_0_1_0_1_0_0_eq, ref04_TypeOf.J1_1_1_1_1_1_1_1_1_0_1_0_1_1_0_eq, hy, c1, c2, tyPs]
        · by_cases g2 : s = [33]
          · subst g2
            by_cases c2 : (tyP vs mark y).2 = 2 <;> simp [ref04_TypeOf.J1_1_1_0_0_eq, ref04_TypeOf.J1_1_1_1_0_0_eq, ref04_TypeOf.J1_1_1_1_1_1_1_1_1_0_1_0_1_0_0_eq, ref04_TypeOf.J1_1_1_1_1_1_1_1_1_0_1_0_1_0_1_0_0_eq, ref04_TypeOf.J1_1_1_1_1_1_1_1_1_0_1_0_1_1_0_eq, hy, c1, c2, tyPs]
          · simp [ref04_TypeOf.J1_1_1_0_0_eq, ref04_TypeOf.J1_1_1_1_0_0_eq, ref04_TypeOf.J1_1_1_1_1_1_1_1_1_0_1_0_0_1_0_0_eq, hy, c1, g1, g2, tyPs]
      · simp [ref04_TypeOf.J1_1_1_0_0_eq, ref04_TypeOf.J1_1_1_1_0_0_eq, hy, c1, tyPs]
    · obtain ⟨y, z, rfl⟩ : ∃ y z, l = [y, z] := by
        match l, h with
        | [y, z], _ => exact ⟨y, z, rfl⟩
      have hy := ih y (by simp)
      have hz := ih z (by simp)
      by_cases c1 : (tyP vs mark y).1 = 0
      · by_cases c2 : (tyP vs mark z).1 = 0
        · simp only [tyPs, one_two]
          by_cases d1 : (oneP s).2 = 0
          · simp [ref04_TypeOf.J1_1_1_0_0_eq, ref04_TypeOf.J1_1_1_1_0_0_eq, hy, hz, c1, c2, eo, d1]
          · by_cases d2 : (tyP vs mark y).2 = (tyP vs mark z).2
            · by_cases d3 : (oneP s).1 = 3
              · simp [ref04_TypeOf.J1_1_1_0_0_eq, ref04_TypeOf.J1_1_1_1_0_0_eq, ref04_TypeOf.J1_1_1_1_1_1_1_1_1_1_1_1_1_1_1_0_eq, hy, hz, c1, c2, eo, d1, d2, d3]
              · by_cases d4 : (tyP vs mark z).2 = (oneP s).1
                · simp [ref04_TypeOf.J1_1_1_0_0_eq, ref04_TypeOf.J1_1_1_1_0_0_eq, ref04_TypeOf.J1_1_1_1_1_1_1_1_1_1_1_1_1_1_1_0_eq, hy, hz, c1, c2, eo, d1, d2, d3, d4]
                · simp [ref04_TypeOf.J1_1_1_0_0_eq, ref04_TypeOf.J1_1_1_1_0_0_eq, ref04_TypeOf.J1_1_1_1_1_1_1_1_1_1_1_1_1_1_0_1_0_0_eq, hy, hz, c1, c2, eo, d1, d2, d3, d4]
            · simp [ref04_TypeOf.J1_1_1_0_0_eq, ref04_TypeOf.J1_1_1_1_0_0_eq, ref04_TypeOf.J1_1_1_1_1_1_1_1_1_1_1_1_1_1_0_1_0_0_eq, hy, hz, c1, c2, eo, d1, d2]
        · simp [ref04_TypeOf.J1_1_1_0_0_eq, ref04_TypeOf.J1_1_1_1_0_0_eq, hy, hz, c1, c2, tyPs]
      · simp [ref04_TypeOf.J1_1_1_0_0_eq, ref04_TypeOf.J1_1_1_1_0_0_eq, hy, c1, tyPs]
  · rw [if_pos hn]
    have hk : k = 1 ∨ k = 2 ∨ k = 3 ∨ k = 4 ∨ k = 5 ∨ k = 6 := by omega
    rcases hk with rfl | rfl | rfl | rfl | rfl | rfl
    · have h2 : ¬ l = [] := fun h => hn (by rw [h]; rfl)
      simp [ref04_TypeOf.J1_1_0_1_0_0_eq, h2]
    · have h2 : ¬ l = [] := fun h => hn (by rw [h]; rfl)
      simp [ref04_TypeOf.J1_1_0_1_0_0_eq, h2]
    · have h2 : ¬ l = [] := fun h => hn (by rw [h]; rfl)
      simp [ref04_TypeOf.J1_1_0_1_0_0_eq, h2]
    · have h2 : ¬ ((l.length : Int) = 1) := fun h => hn (by rw [h]; rfl)
      simp [ref04_TypeOf.J1_1_0_1_0_0_eq, h2]
    · have h2 : ¬ ((l.length : Int) = 1) := fun h => hn (by rw [h]; rfl)
      simp [ref04_TypeOf.J1_1_0_1_0_0_eq, h2]
    · have h2 : ¬ ((l.length : Int) = 2) := fun h => hn (by rw [h]; rfl)
      simp [ref04_TypeOf.J1_1_0_1_0_0_eq, h2]
end Go.Proofs.YtmhnmelaodhemaaGreatDoor
namespace Go.Proofs.YtmhnmelaodhemaaGreatDoor
open Go Go.Proofs.Ab Go.Proofs.Px
set_option linter.unusedVariables false
set_option linter.unusedSimpArgs false
set_option maxRecDepth 100000
section
variable (vs : List Vr) (hl : vs.length ≤ 140737488351232) (mark : Int)
include hl
theorem ref04_is_is (x : Ex) (t : Int) : den Sp ref04_is.id [.agg x.v, .sl .no T_api_Var (vs.map Vr.v), .int .i64 mark, .int .i64 t] [] none = some ⟨.ret (.int .i64 (typedE vs mark x t)), [], none⟩ := by
  have h := ref04_TypeOf_is vs hl mark x
  rw [Ex.v_is] at h ⊢
  rw [ref04_is.eq, ref04_typed.eq, h]
  unfold typedE
  by_cases c1 : (tyP vs mark x).1 = 0
  · by_cases c2 : (tyP vs mark x).2 = t <;> simp [c1, c2]
  · simp [c1]
def holdE (vs : List Vr) (mark : Int) (name : List UInt8) (arr : Bool) (t : Int) : Int := match findV name mark vs with
  | none => 40
  | some v => if decide (0 < v.size) ≠ arr then 41 else if t ≠ 0 ∧ v.type ≠ t then 41 else 0
theorem ref04_holder_is (name : List UInt8) (arr : Bool) (t : Int) : den Sp ref04_holder.id [.sl .no T_api_Var (vs.map Vr.v), .str (B name), .int .i64 mark, .bool arr, .int .i64 t] [] none = some ⟨.ret (.int .i64 (holdE vs mark name arr t)), [], none⟩ := by
  have ef := ref04_Find_is vs hl name mark
  rw [ref04_holder.eq, ef]
  unfold holdE
  rcases find_cases name mark vs 0 with ⟨h1, h2⟩ | ⟨j, hj, h1, h2⟩
  · simp [h1, h2]
  · simp only [h1, h2]
    by_cases c1 : decide (0 < vs[j].size) = arr
    · by_cases c2 : t = 0
      · simp [hj, c1, c2]
      · by_cases c3 : vs[j].type = t <;> simp [hj, c1, c2, c3]
    · have c1' : (decide (0 < vs[j].size) == arr) = false := by rw [beq_eq_false_iff_ne]; exact c1
      simp [hj, c1, c1']
omit hl in
theorem ref04_first_is (a b c : Int) : den Sp ref04_first.id [.sl .no T_api_Errno [[.int .i64 a], [.int .i64 b], [.int .i64 c]]] [] none = some ⟨.ret (.int .i64 (if a ≠ 0 then a else if b ≠ 0 then b else c)), [], none⟩ := by
  have e3 : ref04_first.L1_0_1_0 [[.int .i64 a], [.int .i64 b], [.int .i64 c]] 3 = some ⟨.ret (.int .i64 0), [], none⟩ := by rw [ref04_first.L1_0_1_0_eq]; rfl
  have e2 : ref04_first.L1_0_1_0 [[.int .i64 a], [.int .i64 b], [.int .i64 c]] 2 = some ⟨.ret (.int .i64 c), [], none⟩ := by
    rw [ref04_first.L1_0_1_0_eq]
    by_cases h : c = 0
    · simp [h, wrap_in, e3]; rw [← e3, h]
    · simp [h]
  have e1 : ref04_first.L1_0_1_0 [[.int .i64 a], [.int .i64 b], [.int .i64 c]] 1 = some ⟨.ret (.int .i64 (if b ≠ 0 then b else c)), [], none⟩ := by
    rw [ref04_first.L1_0_1_0_eq]
    by_cases h : b = 0
    · simp [h, wrap_in]; rw [← e2, h]
    · simp [h]
  rw [ref04_first.eq, ref04_first.L1_0_1_0_eq]
  by_cases h : a = 0
  · simp [h, wrap_in]; rw [h] at e1; simpa using e1
  · simp [h]
end
def lowI (name : List UInt8) : List Prc → Int → Int
  | [], _ => -1
  | p :: l, i => if p.name = name then i else lowI name l (i + 1)
theorem low_cases (name : List UInt8) : ∀ (l : List Prc) (i : Int), (calledP name l = none ∧ lowI name l i = -1) ∨ ∃ (j : Nat) (h : j < l.length), calledP name l = some l[j] ∧ lowI name l i = i + (j : Int)
  | [], i => .inl ⟨rfl, rfl⟩
  | p :: l, i => by
    unfold calledP lowI
    by_cases h : p.name = name
    · right; exact ⟨0, by simp, by simp [h], by simp [h]⟩
    · rw [if_neg h, if_neg h]
      rcases low_cases name l (i + 1) with h1 | ⟨j, hj, h1, h2⟩
      · exact .inl h1
      · right; exact ⟨j + 1, by simpa using hj, by simpa using h1, by rw [h2]; omega⟩
theorem low_take (name : List UInt8) {l : List Prc} {j : Nat} (h : j < l.length) : lowI name (l.take (j + 1)) 0 = if lowI name (l.take j) 0 ≠ -1 then lowI name (l.take j) 0 else if l[j].name = name then (j : Int) else -1 := by
  have app : ∀ (a : List Prc) (p : Prc) (i : Int), 0 ≤ i → lowI name (a ++ [p]) i = if lowI name a i ≠ -1 then lowI name a i else if p.name = name then i + (a.length : Int) else -1 := by
    intro a
    induction a with
    | nil => intro p i hi; simp [lowI]
    | cons q a ih =>
      intro p i hi
      rw [List.cons_append, lowI, lowI]
      by_cases c : q.name = name
      · rw [if_pos c, if_pos c, if_pos (by omega)]
      · rw [if_neg c, if_neg c, ih p (i + 1) (by omega), List.length_cons]
        have e : i + 1 + (a.length : Int) = i + ((a.length + 1 : Nat) : Int) := by omega
        rw [e]
  rw [List.take_succ_eq_append_getElem h, app _ _ 0 (by omega), List.length_take, Nat.min_eq_left (by omega), Int.zero_add]
theorem ref04_call_is (vs : List Vr) (hl : vs.length ≤ 140737488351232) (mark : Int) (ps : List Prc) (hps : ps.length ≤ 140737488351232) (s : Stm) (hs : s.e.length ≤ 140737488351232) (hv : ∀ v, findV s.name mark vs = some v → 0 ≤ v.size) :
    den Sp ref04_call.id [.agg [.sl .no T_api_Proc (ps.map Prc.v)], .agg s.v, .sl .no T_api_Var (vs.map Vr.v), .int .i64 mark] [] none = some ⟨.ret (.int .i64 (callE vs mark ps s)), [], none⟩ := by
  have e4 := ref04_is_is vs hl mark
  have e5 := ref04_holder_is vs hl mark s.name false 0
  have e6 := ref04_Find_is vs hl s.name mark
  have args : ∀ (p : Prc) (hp : s.e.length = p.params.length) (i2 i3 : Int) (i : Nat), i ≤ s.e.length → ref04_call.L1_1_1_1_1_1_0_1_0 (vs.map Vr.v) mark i2 i3 (i : Int) (ps.map Prc.v) s.kind (B s.name) (B s.proc) s.num (s.e.map Ex.v) (s.body.map Stm.v) (s.els.map Stm.v) (B p.name) (p.params.map Par.v) p.type (p.body.map Stm.v) =
      some ⟨.ret (.int .i64 (if argsE vs mark (s.e.drop i) (p.params.drop i) ≠ 0 then argsE vs mark (s.e.drop i) (p.params.drop i) else takesE vs mark s.name p.type)), [], none⟩ := by
    intro p hp i2 i3
    refine down ?_ fun i hi ih => ?_
    · rw [ref04_call.L1_1_1_1_1_1_0_1_0_eq]
      unfold takesE
      unfold holdE at e5
      by_cases h1 : s.name = []
      · simp [h1, argsE]
      · rcases find_cases s.name mark vs 0 with ⟨g1, g2⟩ | ⟨j, hj, g1, g2⟩
        · rw [g1] at e5
          simp [h1, argsE, e5, g1]
        · have hv0 := hv _ g1
          rw [g1] at e5
          rw [g2] at e6
          by_cases z : 0 < vs[j].size
          · simp [z] at e5
            simp [h1, argsE, e5, g1, show ¬ vs[j].size = 0 by omega]
          · simp [z] at e5
            by_cases t0 : p.type = 0
            · simp [h1, argsE, e5, g1, t0]
            · by_cases t1 : vs[j].type = p.type
              · simp [h1, argsE, e5, g1, t0, e6, hj, t1, show vs[j].size = 0 by omega]
              · simp [h1, argsE, e5, g1, t0, e6, hj, t1]
    · have hi' : i < p.params.length := by omega
      rw [ref04_call.L1_1_1_1_1_1_0_1_0_eq, List.drop_eq_getElem_cons hi, List.drop_eq_getElem_cons hi', argsE]
      simp only [Int.natCast_add, Int.natCast_one] at ih
      have e7 := e4 s.e[i] p.params[i].type
      by_cases h1 : typedE vs mark s.e[i] p.params[i].type = 0
      · simp (disch := omega) [hi, hi', h1, wrap_in, ih, e7]
      · simp (disch := omega) [hi, hi', h1, wrap_in, e7]
  have tail : ∀ (i3 : Int), ref04_call.L1_1_0_1_0 (vs.map Vr.v) mark (lowI s.proc ps 0) (-1) (ps.map Prc.v) s.kind (B s.name) (B s.proc) s.num (s.e.map Ex.v) (s.body.map Stm.v) (s.els.map Stm.v) = some ⟨.ret (.int .i64 (callE vs mark ps s)), [], none⟩ := by
    intro i3
    rw [ref04_call.L1_1_0_1_0_eq]
    unfold callE
    rcases low_cases s.proc ps 0 with ⟨h1, h2⟩ | ⟨j, hj, h1, h2⟩
    · simp [h1, h2]
    · simp only [h1, h2]
      by_cases hn : s.e.length = ps[j].params.length
      · have h0 := args ps[j] hn (j : Int) (-1) 0 (Nat.zero_le _)
        simp at h0
        simp [hj, hn]
        simpa using h0
      · have hn' : ¬ ((ps[j].params.length : Int) = (s.e.length : Int)) := by omega
        simp [hj, hn, hn']
  have key : ∀ (j : Nat), j ≤ ps.length → ∀ at_ : Int, (if lowI s.proc (ps.take j) 0 = -1 then at_ else lowI s.proc (ps.take j) 0) = lowI s.proc ps 0 → ref04_call.L1_1_0_1_0 (vs.map Vr.v) mark at_ ((j : Int) - 1) (ps.map Prc.v) s.kind (B s.name) (B s.proc) s.num (s.e.map Ex.v) (s.body.map Stm.v) (s.els.map Stm.v) = some ⟨.ret (.int .i64 (callE vs mark ps s)), [], none⟩ := by
    intro j
    induction j with
    | zero =>
      intro _ at_ h
      rw [List.take_zero] at h
      simp [lowI] at h
      rw [h]
      simpa using tail 0
    | succ j ih =>
      intro hj at_ h
      have hj' : j < ps.length := by omega
      rw [low_take s.proc hj'] at h
      have e : (((j + 1 : Nat) : Int) - 1) = (j : Int) := by omega
      rw [e, ref04_call.L1_1_0_1_0_eq]
      by_cases c : ps[j].name = s.proc
      · have h3 := ih (by omega) (j : Int) (by
          rw [← h]
          by_cases d : lowI s.proc (ps.take j) 0 = -1
          · simp [d, c]
          · simp [d])
        simp (disch := omega) [hj', c, wrap_in]
        exact h3
      · have h3 := ih (by omega) at_ (by
          rw [← h]
          by_cases d : lowI s.proc (ps.take j) 0 = -1 <;> simp [d, c])
        simp (disch := omega) [hj', c, wrap_in]
        exact h3
  rw [Stm.v_is, ref04_call.eq]
  have h0 := key ps.length (Nat.le_refl _) (-1) (by rw [List.take_length]; split <;> omega)
  rw [List.length_map, wrap_in (by omega) (by omega)]
  exact h0
def kindsP (k : Int) : Int := if k < 1 ∨ 10 < k then -2 else if k = 1 then 0 else if k = 2 then 1 else if k = 3 then 2 else if k = 4 then 1 else if k = 5 then 1 else if k = 6 then -1 else if k = 7 then -1 else if k = 8 then 1 else if k = 9 then 0 else 1
theorem ref04_kinds_is (k : Int) : den Sp ref04_kinds.id [.int .i64 k] [] none = some ⟨.ret (.int .i64 (kindsP k)), [], none⟩ := by
  rw [ref04_kinds.eq]
  unfold kindsP
  by_cases h0 : k < 1
  · simp [h0]
  by_cases h1 : 10 < k
  · simp [h0, h1]
  have hk : k = 1 ∨ k = 2 ∨ k = 3 ∨ k = 4 ∨ k = 5 ∨ k = 6 ∨ k = 7 ∨ k = 8 ∨ k = 9 ∨ k = 10 := by omega
  rcases hk with rfl | rfl | rfl | rfl | rfl | rfl | rfl | rfl | rfl | rfl <;> rfl
section
variable (vs : List Vr) (hl : vs.length ≤ 140737488351232) (mark : Int) (ps : List Prc) (hps : ps.length ≤ 140737488351232) (q : Prc) (k : Int) (n p : List UInt8) (m : Int) (e : List Ex) (b l : List Stm) (he : e.length ≤ 140737488351232)
    (hv : ∀ v, findV n mark vs = some v → 0 ≤ v.size)
include hl hps he hv
theorem ref04_switch_is (hb : b = [] ∨ k = 4 ∨ k = 5) (hll : l = [] ∨ k = 4) (hk : kindsP k ≠ -2) (hn : 0 ≤ kindsP k → (e.length : Int) = kindsP k) (h7 : k = 7 → e.length ≤ 1) (h1 : k = 1 → -1 ≤ m) (i2 : Int) :
    ref04_stmt.J1_1_1_1_0_0 (vs.map Vr.v) mark i2 (ps.map Prc.v) (B q.name) (q.params.map Par.v) q.type (q.body.map Stm.v) k (B n) (B p) m (e.map Ex.v) (b.map Stm.v) (l.map Stm.v) = some ⟨.ret (.int .i64 (stmtE vs mark ps q (.mk k n p m e b l))), [], none⟩ := by
  have e4 := ref04_is_is vs hl mark
  have e3 := ref04_TypeOf_is vs hl mark
  have e5 := ref04_holder_is vs hl mark n
  have e6 := ref04_Find_is vs hl n mark
  have e7 := ref04_call_is vs hl mark ps hps (.mk k n p m e b l) he hv
  rw [Stm.v_mk] at e7
  have c1 : ¬ (b ≠ [] ∧ k ≠ 4 ∧ k ≠ 5) := fun h => hb.elim h.1 fun h2 => h2.elim h.2.1 h.2.2
  have c2 : ¬ (l ≠ [] ∧ k ≠ 4) := fun h => hll.elim h.1 h.2
  rw [stmtE_mk]
  unfold stmtK
  rw [if_neg c1, if_neg c2, ref04_stmt.J1_1_1_1_0_0_eq]
  unfold holdE at e5
  have hkk : k = 1 ∨ k = 2 ∨ k = 3 ∨ k = 4 ∨ k = 5 ∨ k = 6 ∨ k = 7 ∨ k = 8 ∨ k = 9 ∨ k = 10 := by
    unfold kindsP at hk
    split at hk
    · exact absurd rfl hk
    · omega
  rcases hkk with rfl | rfl | rfl | rfl | rfl | rfl | rfl | rfl | rfl | rfl
  · have he0 : e = [] := by
      have := hn (by decide)
      exact List.eq_nil_of_length_eq_zero (by have : kindsP 1 = 0 := rfl; omega)
    subst he0
    have := h1 rfl
    by_cases c : 64 < m
    · simp [c, show ¬ m < -1 by omega]
    · simp [c, show ¬ m < -1 by omega, ref04_stmt.J1_1_1_1_1_0_eq]
  · obtain ⟨x, rfl⟩ := List.length_eq_one_iff.1 (show e.length = 1 by have := hn (by decide); have : kindsP 2 = 1 := rfl; omega)
    rcases find_cases n mark vs 0 with ⟨g1, g2⟩ | ⟨j, hj, g1, g2⟩
    · have e5 := e5 false 0
      rw [g1] at e5
      simp [e5, g1]
    · have hv0 := hv _ g1
      have e5 := e5 false 0
      rw [g1] at e5
      rw [g2] at e6
      have e8 := e4 x vs[j].type
      by_cases z : 0 < vs[j].size
      · simp [z] at e5
        simp [e5, g1, show ¬ vs[j].size = 0 by omega]
      · simp [z] at e5
        simp [e5, g1, e6, hj, e8, show vs[j].size = 0 by omega]
  · obtain ⟨x, y, rfl⟩ : ∃ x y, e = [x, y] := by
      match e, (show e.length = 2 by have := hn (by decide); have : kindsP 3 = 2 := rfl; omega) with
      | [x, y], _ => exact ⟨x, y, rfl⟩
    have e8 := e4 x 1
    have e9 := e4 y 1
    rcases find_cases n mark vs 0 with ⟨g1, g2⟩ | ⟨j, hj, g1, g2⟩
    · have e5 := e5 true 0
      rw [g1] at e5
      simp [e5, g1, e8, e9, ref04_first_is]
    · have e5 := e5 true 0
      rw [g1] at e5
      by_cases z : 0 < vs[j].size
      · simp [z] at e5
        simp [e5, g1, z, e8, e9, ref04_first_is]
      · simp [z] at e5
        simp [e5, g1, z, e8, e9, ref04_first_is]
  · obtain ⟨x, rfl⟩ := List.length_eq_one_iff.1 (show e.length = 1 by have := hn (by decide); have : kindsP 4 = 1 := rfl; omega)
    have e8 := e4 x 2
    simp [ref04_stmt.J1_1_1_1_0_1_0_1_1_1_1_1_1_1_0_0_eq, e8, oneE]
  · obtain ⟨x, rfl⟩ := List.length_eq_one_iff.1 (show e.length = 1 by have := hn (by decide); have : kindsP 5 = 1 := rfl; omega)
    have e8 := e4 x 2
    simp [ref04_stmt.J1_1_1_1_0_1_0_1_1_1_1_1_1_1_0_0_eq, e8, oneE]
  · simp [ref04_stmt.J1_1_1_1_0_1_0_1_1_1_1_1_1_1_1_0_eq, e7]
  · have h7 := h7 rfl
    match e, h7 with
    | [], _ =>
      by_cases t : q.type = 0
      · simp [ref04_stmt.J1_1_1_1_0_1_0_1_1_1_1_1_1_1_1_0_eq, ref04_stmt.J1_1_1_1_1_0_eq, t, returnsE]
      · simp [ref04_stmt.J1_1_1_1_0_1_0_1_1_1_1_1_1_1_1_0_eq, t, returnsE]
    | [x], _ =>
      have e8 := e4 x q.type
      by_cases t : q.type = 0
      · simp [ref04_stmt.J1_1_1_1_0_1_0_1_1_1_1_1_1_1_1_0_eq, t, returnsE]
      · simp [ref04_stmt.J1_1_1_1_0_1_0_1_1_1_1_1_1_1_1_0_eq, t, returnsE, e8]
  · obtain ⟨x, rfl⟩ := List.length_eq_one_iff.1 (show e.length = 1 by have := hn (by decide); have : kindsP 8 = 1 := rfl; omega)
    have e8 := e3 x
    simp [ref04_stmt.J1_1_1_1_0_1_0_1_1_1_1_1_1_1_1_0_eq, e8, oneE]
  · have he0 : e = [] := by
      have := hn (by decide)
      exact List.eq_nil_of_length_eq_zero (by have : kindsP 9 = 0 := rfl; omega)
    subst he0
    have e5 := e5 false 1
    rcases find_cases n mark vs 0 with ⟨g1, g2⟩ | ⟨j, hj, g1, g2⟩
    · rw [g1] at e5
      simp [ref04_stmt.J1_1_1_1_0_1_0_1_1_1_1_1_1_1_1_0_eq, e5, g1]
    · have hv0 := hv _ g1
      rw [g1] at e5
      by_cases z : 0 < vs[j].size
      · simp [z] at e5
        simp [ref04_stmt.J1_1_1_1_0_1_0_1_1_1_1_1_1_1_1_0_eq, e5, g1, show ¬ vs[j].size = 0 by omega]
      · by_cases t : vs[j].type = 1
        · simp [z, t] at e5
          simp [ref04_stmt.J1_1_1_1_0_1_0_1_1_1_1_1_1_1_1_0_eq, e5, g1, t, show vs[j].size = 0 by omega]
        · simp [z, t] at e5
          simp [ref04_stmt.J1_1_1_1_0_1_0_1_1_1_1_1_1_1_1_0_eq, e5, g1, t]
  · obtain ⟨x, rfl⟩ := List.length_eq_one_iff.1 (show e.length = 1 by have := hn (by decide); have : kindsP 10 = 1 := rfl; omega)
    have e8 := e4 x 2
    simp [ref04_stmt.J1_1_1_1_0_1_0_1_1_1_1_1_1_1_0_0_eq, e8, oneE]
omit hl hps he hv in
theorem kind_bad (c1 : ¬ (b ≠ [] ∧ k ≠ 4 ∧ k ≠ 5)) (c2 : ¬ (l ≠ [] ∧ k ≠ 4)) (h : kindsP k = -2 ∨ (0 ≤ kindsP k ∧ (e.length : Int) ≠ kindsP k) ∨ (k = 7 ∧ 1 < e.length)) : stmtE vs mark ps q (.mk k n p m e b l) = 32 := by
  rw [stmtE_mk]
  unfold stmtK
  rw [if_neg c1, if_neg c2]
  by_cases hk : k < 1 ∨ 10 < k
  · rw [if_neg (by omega), if_neg (by omega), if_neg (by omega), if_neg (by omega), if_neg (by omega), if_neg (by omega), if_neg (by omega), if_neg (by omega)]
  have hkk : k = 1 ∨ k = 2 ∨ k = 3 ∨ k = 4 ∨ k = 5 ∨ k = 6 ∨ k = 7 ∨ k = 8 ∨ k = 9 ∨ k = 10 := by omega
  rcases hkk with rfl | rfl | rfl | rfl | rfl | rfl | rfl | rfl | rfl | rfl
  · have h : e.length ≠ 0 := by have : kindsP 1 = 0 := rfl; omega
    simp [List.length_eq_zero_iff] at h
    simp [h]
  · have h : e.length ≠ 1 := by have : kindsP 2 = 1 := rfl; omega
    match e, h with
    | [], _ => rfl
    | [x], h => exact absurd rfl h
    | x :: y :: r, _ => rfl
  · have h : e.length ≠ 2 := by have : kindsP 3 = 2 := rfl; omega
    match e, h with
    | [], _ => rfl
    | [x], _ => rfl
    | [x, y], h => exact absurd rfl h
    | x :: y :: z :: r, _ => rfl
  · have h : e.length ≠ 1 := by have : kindsP 4 = 1 := rfl; omega
    match e, h with
    | [], _ => rfl
    | [x], h => exact absurd rfl h
    | x :: y :: r, _ => rfl
  · have h : e.length ≠ 1 := by have : kindsP 5 = 1 := rfl; omega
    match e, h with
    | [], _ => rfl
    | [x], h => exact absurd rfl h
    | x :: y :: r, _ => rfl
  · have : kindsP 6 = -1 := rfl
    omega
  · have h : 1 < e.length := by have : kindsP 7 = -1 := rfl; omega
    match e, h with
    | x :: y :: r, _ => rfl
    | [x], h => simp at h
    | [], h => simp at h
  · have h : e.length ≠ 1 := by have : kindsP 8 = 1 := rfl; omega
    match e, h with
    | [], _ => rfl
    | [x], h => exact absurd rfl h
    | x :: y :: r, _ => rfl
  · have h : e.length ≠ 0 := by have : kindsP 9 = 0 := rfl; omega
    match e, h with
    | [], h => exact absurd rfl h
    | x :: r, _ => rfl
  · have h : e.length ≠ 1 := by have : kindsP 10 = 1 := rfl; omega
    match e, h with
    | [], _ => rfl
    | [x], h => exact absurd rfl h
    | x :: y :: r, _ => rfl
theorem ref04_stmt_is : den Sp ref04_stmt.id [.agg [.sl .no T_api_Proc (ps.map Prc.v)], .agg q.v, .agg (Stm.mk k n p m e b l).v, .sl .no T_api_Var (vs.map Vr.v), .int .i64 mark] [] none = some ⟨.ret (.int .i64 (stmtE vs mark ps q (.mk k n p m e b l))), [], none⟩ := by
  have sw := fun h1 h2 h3 h4 h5 h6 => ref04_switch_is vs hl mark ps hps q k n p m e b l he hv h1 h2 h3 h4 h5 h6 (kindsP k)
  have hqv : q.v = [V.str (B q.name), V.sl .no T_api_Param (q.params.map Par.v), V.int .i64 q.type, V.sl .no T_api_Stmt (q.body.map Stm.v)] := rfl
  have nn : ∀ l : List Stm, ((0 : Int) < (l.length : Int)) = (l ≠ []) := fun l => by
    cases l <;> simp <;> omega
  rw [hqv, Stm.v_mk, ref04_stmt.eq, ref04_kinds_is]
  have second : (b = [] ∨ k = 4 ∨ k = 5) → (l = [] ∨ k = 4) → (k = 1 → -1 ≤ m) → ref04_stmt.J1_1_1_0_0 (vs.map Vr.v) mark (kindsP k) (ps.map Prc.v) (B q.name) (q.params.map Par.v) q.type (q.body.map Stm.v) k (B n) (B p) m (e.map Ex.v) (b.map Stm.v) (l.map Stm.v) = some ⟨.ret (.int .i64 (stmtE vs mark ps q (.mk k n p m e b l))), [], none⟩ := by
    intro hb hll h1
    have c1 : ¬ (b ≠ [] ∧ k ≠ 4 ∧ k ≠ 5) := fun h => hb.elim h.1 fun h2 => h2.elim h.2.1 h.2.2
    have c2 : ¬ (l ≠ [] ∧ k ≠ 4) := fun h => hll.elim h.1 h.2
    have J : ref04_stmt.J1_1_1_0_1_0_0 (vs.map Vr.v) mark (kindsP k) (ps.map Prc.v) (B q.name) (q.params.map Par.v) q.type (q.body.map Stm.v) k (B n) (B p) m (e.map Ex.v) (b.map Stm.v) (l.map Stm.v) = some ⟨.ret (.int .i64 32), [], none⟩ := ref04_stmt.J1_1_1_0_1_0_0_eq ..
    have kb := kind_bad vs mark ps q k n p m e b l c1 c2
    rw [ref04_stmt.J1_1_1_0_0_eq, List.length_map]
    by_cases hk : kindsP k = -2
    · rw [kb (.inl hk), ← J]; simp [hk]
    · by_cases h7 : k = 7 ∧ 1 < e.length
      · have k7 : kindsP 7 = -1 := rfl
        rw [kb (.inr (.inr h7)), ← J, h7.1, k7]
        simp [h7.2, show (1 : Int) < (e.length : Int) by omega]
      · by_cases hn : 0 ≤ kindsP k
        · by_cases hlen : (e.length : Int) = kindsP k
          · have sw := sw hb hll hk (fun _ => hlen) (fun h => by omega) h1
            by_cases hk7 : k = 7
            · subst hk7; exact absurd hn (by decide)
            · simp [hk, hn, hlen, hk7, sw]
          · rw [kb (.inr (.inl ⟨hn, hlen⟩)), ← J]
            simp [hk, hn, hlen]
        · have sw := sw hb hll hk (fun h => absurd h hn) (fun h => by omega) h1
          by_cases hk7 : k = 7
          · have h1e : ¬ 1 < e.length := fun h => h7 ⟨hk7, h⟩
            subst hk7
            have k7 : kindsP 7 = -1 := rfl
            rw [k7] at sw ⊢
            simp [h1e, show ¬ (1 : Int) < (e.length : Int) by omega]
            exact sw
          · simp [hk, hn, hk7, sw]
  have J0 : ref04_stmt.J1_1_0_1_0_0 (vs.map Vr.v) mark (kindsP k) (ps.map Prc.v) (B q.name) (q.params.map Par.v) q.type (q.body.map Stm.v) k (B n) (B p) m (e.map Ex.v) (b.map Stm.v) (l.map Stm.v) = some ⟨.ret (.int .i64 32), [], none⟩ := ref04_stmt.J1_1_0_1_0_0_eq ..
  by_cases g1 : b ≠ [] ∧ k ≠ 4 ∧ k ≠ 5
  · have e32 : stmtE vs mark ps q (.mk k n p m e b l) = 32 := by rw [stmtE_mk]; unfold stmtK; rw [if_pos g1]
    rw [e32, ← J0]
    simp [List.length_pos_iff, g1.1, g1.2.1, g1.2.2]
  by_cases g2 : l ≠ [] ∧ k ≠ 4
  · have e32 : stmtE vs mark ps q (.mk k n p m e b l) = 32 := by rw [stmtE_mk]; unfold stmtK; rw [if_neg g1, if_pos g2]
    rw [e32, ← J0]
    by_cases hb : b = []
    · simp [List.length_pos_iff, hb, g2.1, g2.2]
    · by_cases k5 : k = 5
      · simp [List.length_pos_iff, hb, g2.1, k5]
      · exact absurd ⟨hb, g2.2, k5⟩ g1
  have hb : b = [] ∨ k = 4 ∨ k = 5 := by
    by_cases hb : b = []
    · exact .inl hb
    · by_cases k4 : k = 4
      · exact .inr (.inl k4)
      · by_cases k5 : k = 5
        · exact .inr (.inr k5)
        · exact absurd ⟨hb, k4, k5⟩ g1
  have hll : l = [] ∨ k = 4 := by
    by_cases hl' : l = []
    · exact .inl hl'
    · by_cases k4 : k = 4
      · exact .inr k4
      · exact absurd ⟨hl', k4⟩ g2
  by_cases g3 : k = 1 ∧ m < -1
  · have e32 : stmtE vs mark ps q (.mk k n p m e b l) = 32 := by
      rw [stmtE_mk]; unfold stmtK; rw [if_neg g1, if_neg g2, if_pos g3.1]
      split
      · rfl
      · rw [if_pos g3.2]
    obtain ⟨rfl, hm⟩ := g3
    have hb0 : b = [] := by rcases hb with h | h | h <;> first | exact h | omega
    have hl0 : l = [] := by rcases hll with h | h <;> first | exact h | omega
    rw [e32, ← J0]
    simp [hb0, hl0, hm]
  · have h1 : k = 1 → -1 ≤ m := fun h => by
      have : ¬ m < -1 := fun h2 => g3 ⟨h, h2⟩
      omega
    have s2 := second hb hll h1
    by_cases k4 : k = 4
    · subst k4
      by_cases hb' : b = [] <;> by_cases hl' : l = [] <;> simp [List.length_pos_iff, hb', hl'] at s2 ⊢ <;> exact s2
    · have hl0 : l = [] := by rcases hll with h | h <;> first | exact h | exact absurd h k4
      subst hl0
      by_cases k5 : k = 5
      · subst k5
        by_cases hb' : b = [] <;> simp [List.length_pos_iff, hb'] at s2 ⊢ <;> exact s2
      · have hb0 : b = [] := by rcases hb with h | h | h <;> first | exact h | exact absurd h k4 | exact absurd h k5
        subst hb0
        by_cases k1 : k = 1
        · have := h1 k1
          simp [k1, show ¬ m < -1 by omega] at s2 ⊢
          exact s2
        · simp [k1] at s2 ⊢
          exact s2
end
end Go.Proofs.YtmhnmelaodhemaaGreatDoor
namespace Go.Proofs.YtmhnmelaodhemaaGreatDoor
open Go Go.Proofs.Ab
set_option maxRecDepth 100000
set_option linter.unusedVariables false
namespace ref04_total
noncomputable abbrev e (p : List Nat) := ev Sp (den Sp) id Tryz.f57.ntmps (cAt (bodyOf Tryz.f57) p)
noncomputable abbrev cn (n0 : List Nat) := canon Sp id n0
noncomputable abbrev K : K := kFin Sp (den Sp) Tryz.f57 0
noncomputable def L1_1_0_1_0 (l0 : List (List V)) (i1 i2 : Int) : Option Res := LP (e [1, 1, 0, 1, 0, 0]) (cn []) (kBlk 0 (kSeq (e [1, 1, 1]) (K))) ([(0, (V.sl .no T_api_Stmt l0)), (3, (V.int .i64 i1)), (4, (V.int .i64 i2))], ⟨[], [], [], [], none⟩)
theorem L1_1_0_1_0_eq (l0 : List (List V)) (i1 i2 : Int) : L1_1_0_1_0 l0 i1 i2 =
    (bif (decide (i2 < (l0.length : Int))) then (if (((0 : Int) ≤ i2) ∧ (i2 < (l0.length : Int))) then (V.asSl (List.getD (List.getD l0 (Int.toNat i2) []) 5 V.undef) T_api_Stmt (fun es10 => ((den Sp ref04_total.id [(V.sl .no T_api_Stmt es10)] [] none)).bind (fun r11 => (Res.onRet r11 (fun v12 => (V.asInt v12 .i64 (fun n13 => (if (((0 : Int) ≤ i2) ∧ (i2 < (l0.length : Int))) then (V.asSl (List.getD (List.getD l0 (Int.toNat i2) []) 6 V.undef) T_api_Stmt (fun es15 => ((den Sp ref04_total.id [(V.sl .no T_api_Stmt es15)] [] none)).bind (fun r16 => (Res.onRet r16 (fun v17 => (V.asInt v17 .i64 (fun n18 => (L1_1_0_1_0 l0 (IntKind.wrap .i64 ((IntKind.wrap .i64 ((IntKind.wrap .i64 (i1 + (1 : Int))) + n13)) + n18)) (IntKind.wrap .i64 (i2 + (1 : Int))))))))))) else none)))))))) else none) else (some ⟨(Out.ret (V.int .i64 i1)), [], none⟩)) := (LP_eq ..).trans (by kernel_rfl)
theorem eq (a0 : (List (List V))) : den Sp id [(V.sl .no T_api_Stmt a0)] [] none =
    (L1_1_0_1_0 a0 (0 : Int) (0 : Int)) := (den_eq ..).trans (by kernel_rfl)
end ref04_total
namespace ref04_Row
noncomputable abbrev e (p : List Nat) := ev Sp (den Sp) id Tryz.f100.ntmps (cAt (bodyOf Tryz.f100) p)
noncomputable abbrev cn (n0 : List Nat) := canon Sp id n0
noncomputable abbrev K : K := kFin Sp (den Sp) Tryz.f100 0
noncomputable def L1_1_1_0_1_0 (l0 : List (List V)) (i1 : Int) (l2 : List (List V)) (i3 i4 : Int) : Option Res := LP (e [1, 1, 1, 0, 1, 0, 0]) (cn []) (kBlk 0 (kSeq (e [1, 1, 1, 1]) (K))) ([(0, (V.sl .no T_api_Stmt l0)), (1, (V.int .i64 i1)), (5, (V.sl (Tok.row 0) T_parallaxref04_Item l2)), (6, (V.int .i64 i3)), (7, (V.int .i64 i4))], ⟨[], [0], [], [], none⟩)
theorem L1_1_1_0_1_0_eq (l0 : List (List V)) (i1 : Int) (l2 : List (List V)) (i3 i4 : Int) : L1_1_1_0_1_0 l0 i1 l2 i3 i4 =
    (bif (decide (i4 < (l0.length : Int))) then (if (((0 : Int) ≤ i4) ∧ (i4 < (l0.length : Int))) then (V.asInt (List.getD (List.getD l0 (Int.toNat i4) []) 0 V.undef) .i64 (fun n16 => (V.asStr (List.getD (List.getD l0 (Int.toNat i4) []) 1 V.undef) (fun s17 => (V.asStr (List.getD (List.getD l0 (Int.toNat i4) []) 2 V.undef) (fun s18 => (V.asInt (List.getD (List.getD l0 (Int.toNat i4) []) 3 V.undef) .i64 (fun n19 => (V.asSl (List.getD (List.getD l0 (Int.toNat i4) []) 4 V.undef) T_api_Expr (fun es20 => (V.asSl (List.getD (List.getD l0 (Int.toNat i4) []) 5 V.undef) T_api_Stmt (fun es21 => (V.asSl (List.getD (List.getD l0 (Int.toNat i4) []) 6 V.undef) T_api_Stmt (fun es22 => (if (((List.length l2) + (List.length [[(V.int .i64 n16), (V.str s17), (V.str s18), (V.int .i64 n19), (V.sl .no T_api_Expr es20), (V.sl .no T_api_Stmt es21), (V.sl .no T_api_Stmt es22), (V.int .i64 i3)]])) ≤ most) then (if (((0 : Int) ≤ i4) ∧ (i4 < (l0.length : Int))) then (V.asSl (List.getD (List.getD l0 (Int.toNat i4) []) 5 V.undef) T_api_Stmt (fun es24 => ((den Sp ref04_Row.id [(V.sl .no T_api_Stmt es24), (V.int .i64 (IntKind.wrap .i64 (i1 + (1 : Int))))] [] none)).bind (fun r25 => (Res.onRet r25 (fun v26 => (V.asSl v26 T_parallaxref04_Item (fun es27 => (if (((0 : Int) ≤ i4) ∧ (i4 < (l0.length : Int))) then (V.asSl (List.getD (List.getD l0 (Int.toNat i4) []) 6 V.undef) T_api_Stmt (fun es29 => ((den Sp ref04_Row.id [(V.sl .no T_api_Stmt es29), (V.int .i64 (IntKind.wrap .i64 ((IntKind.wrap .i64 (i1 + (1 : Int))) + (es27.length : Int))))] [] none)).bind (fun r30 => (Res.onRet r30 (fun v31 => (V.asSl v31 T_parallaxref04_Item (fun es32 => (if (((List.length (l2 ++ [[(V.int .i64 n16), (V.str s17), (V.str s18), (V.int .i64 n19), (V.sl .no T_api_Expr es20), (V.sl .no T_api_Stmt es21), (V.sl .no T_api_Stmt es22), (V.int .i64 i3)]])) + (List.length es27)) ≤ most) then (if (((List.length ((l2 ++ [[(V.int .i64 n16), (V.str s17), (V.str s18), (V.int .i64 n19), (V.sl .no T_api_Expr es20), (V.sl .no T_api_Stmt es21), (V.sl .no T_api_Stmt es22), (V.int .i64 i3)]]) ++ es27)) + (List.length es32)) ≤ most) then (L1_1_1_0_1_0 l0 (IntKind.wrap .i64 ((IntKind.wrap .i64 ((IntKind.wrap .i64 (i1 + (1 : Int))) + (es27.length : Int))) + (es32.length : Int))) (((l2 ++ [[(V.int .i64 n16), (V.str s17), (V.str s18), (V.int .i64 n19), (V.sl .no T_api_Expr es20), (V.sl .no T_api_Stmt es21), (V.sl .no T_api_Stmt es22), (V.int .i64 i3)]]) ++ es27) ++ es32) i3 (IntKind.wrap .i64 (i4 + (1 : Int)))) else none) else none)))))))) else none)))))))) else none) else none))))))))))))))) else none) else (some ⟨(Out.ret (V.sl .no T_parallaxref04_Item l2)), [], none⟩)) := (LP_eq ..).trans (by kernel_rfl)
theorem eq (a0 : List (List V)) (a1 : Int) : den Sp id [(V.sl .no T_api_Stmt a0), (V.int .i64 a1)] [] none =
    ((den Sp ref04_total.id [(V.sl .no T_api_Stmt a0)] [] none)).bind (fun r5 => (Res.onRet r5 (fun v6 => (V.asInt v6 .i64 (fun n7 => (L1_1_1_0_1_0 a0 a1 [] (IntKind.wrap .i64 ((IntKind.wrap .i64 (a1 + n7)) - (1 : Int))) (0 : Int))))))) := (den_eq ..).trans (by kernel_rfl)
end ref04_Row
namespace ref04_Count
noncomputable abbrev e (p : List Nat) := ev Sp (den Sp) id Tryz.f98.ntmps (cAt (bodyOf Tryz.f98) p)
noncomputable abbrev cn (n0 : List Nat) := canon Sp id n0
noncomputable abbrev K : K := kFin Sp (den Sp) Tryz.f98 0
theorem eq (a0_0 : ByteArray) (a0_1 : List (List V)) (a0_2 : Int) (a0_3 : List (List V)) : den Sp id [(V.agg [(V.str a0_0), (V.sl .no T_api_Param a0_1), (V.int .i64 a0_2), (V.sl .no T_api_Stmt a0_3)])] [] none =
    ((den Sp ref04_total.id [(V.sl .no T_api_Stmt a0_3)] [] none)).bind (fun r6 => (Res.onRet r6 (fun v7 => (V.asInt v7 .i64 (fun n8 => (some ⟨(Out.ret (V.int .i64 n8)), [], none⟩)))))) := (den_eq ..).trans (by kernel_rfl)
end ref04_Count
end Go.Proofs.YtmhnmelaodhemaaGreatDoor
namespace Go.Proofs.YtmhnmelaodhemaaGreatDoor
open Go Go.Proofs.Ab Go.Proofs.Px
set_option linter.unusedVariables false
set_option linter.unusedSimpArgs false
set_option maxRecDepth 100000
theorem ref04_total_is : ∀ l : List Stm, Stm.counts l ≤ 1000000 → den Sp ref04_total.id [.sl .no T_api_Stmt (l.map Stm.v)] [] none = some ⟨.ret (.int .i64 (Stm.counts l : Int)), [], none⟩ := by
  refine Stm.ind_list fun l ih hc => ?_
  have hlen := Stm.counts_len l
  have key : ∀ i : Nat, i ≤ l.length → ∀ n : Int, 0 ≤ n → n + (Stm.counts (l.drop i) : Int) ≤ 1000000 → ref04_total.L1_1_0_1_0 (l.map Stm.v) n (i : Int) = some ⟨.ret (.int .i64 (n + (Stm.counts (l.drop i) : Int))), [], none⟩ := by
    refine down (fun n hn h => ?_) fun i hi ihi n hn h => ?_
    · rw [ref04_total.L1_1_0_1_0_eq]; simp [Stm.counts]
    · rw [Stm.counts_drop hi, Stm.count_is] at h
      have hm := List.getElem_mem hi
      have h1 := (ih _ hm).1 (by omega)
      have h2 := (ih _ hm).2 (by omega)
      have h3 := ihi (n + (1 + (Stm.counts l[i].body : Int) + (Stm.counts l[i].els : Int))) (by omega) (by omega)
      rw [ref04_total.L1_1_0_1_0_eq]
      simp (disch := omega) [hi, h1, h2, wrap_in]
      rw [Stm.counts_drop hi, Stm.count_is]
      simp only [Int.natCast_add, Int.add_assoc] at h3 ⊢
      exact h3
  rw [ref04_total.eq]
  simpa using key 0 (Nat.zero_le _) 0 (by omega) (by simp; omega)
theorem ref04_Row_is : ∀ l : List Stm, Stm.counts l ≤ 1000000 → ∀ next : Int, 0 ≤ next → next + (Stm.counts l : Int) ≤ 3000000 → den Sp ref04_Row.id [.sl .no T_api_Stmt (l.map Stm.v), .int .i64 next] [] none =
    some ⟨.ret (.sl .no T_parallaxref04_Item ((Stm.items l next (next + (Stm.counts l : Int) - 1)).map itemV)), [], none⟩ := by
  refine Stm.ind_list fun l ih hc next g0 g1 => ?_
  have hlen := Stm.counts_len l
  have key : ∀ i : Nat, i ≤ l.length → ∀ (nx : Int) (acc : List (Stm × Int)), 0 ≤ nx → nx + (Stm.counts (l.drop i) : Int) ≤ 3000000 → acc.length + Stm.counts (l.drop i) ≤ 1000000 → ∀ last : Int,
      ref04_Row.L1_1_1_0_1_0 (l.map Stm.v) nx (acc.map itemV) last (i : Int) = some ⟨.ret (.sl .no T_parallaxref04_Item ((acc ++ Stm.items (l.drop i) nx last).map itemV)), [], none⟩ := by
    refine down (fun nx acc _ _ _ last => ?_) fun i hi ihi nx acc hn h hacc last => ?_
    · rw [ref04_Row.L1_1_1_0_1_0_eq]; simp [Stm.items]
    · rw [Stm.counts_drop hi, Stm.count_is] at h hacc
      have hm := List.getElem_mem hi
      have h1 := (ih _ hm).1 (by omega) (nx + 1) (by omega) (by omega)
      have h2 := (ih _ hm).2 (by omega) (nx + 1 + (Stm.counts l[i].body : Int)) (by omega) (by omega)
      have h3 := ihi (nx + (l[i].count : Int)) (acc ++ Stm.item l[i] nx last) (by omega) (by rw [Stm.count_is]; omega) (by rw [List.length_append, Stm.item_is, List.length_cons, List.length_append, Stm.items_len, Stm.items_len]; omega) last
      rw [ref04_Row.L1_1_1_0_1_0_eq]
      simp (disch := omega) [hi, h1, h2, wrap_in, most_if, Stm.items_len]
      rw [Stm.items_drop hi]
      rw [Stm.count_is, Stm.item_is] at h3 ⊢
      simp [itemV, Int.add_assoc] at h3 ⊢
      exact h3
  have h0 := key 0 (Nat.zero_le _) next [] g0 (by simpa using g1) (by simpa using hc) (next + (Stm.counts l : Int) - 1)
  rw [ref04_Row.eq, ref04_total_is l hc]
  simp (disch := omega) [wrap_in]
  simpa using h0
end Go.Proofs.YtmhnmelaodhemaaGreatDoor
namespace Go.Proofs.YtmhnmelaodhemaaGreatDoor
open Go Go.Proofs.Ab Go.Proofs.Px
set_option linter.unusedVariables false
set_option linter.unusedSimpArgs false
set_option maxRecDepth 100000
theorem ref04_Returns_is : ∀ l : List Stm, l.length ≤ 140737488351232 → (∀ s ∈ l, StmOk s) → den Sp ref04_Returns.id [.sl .no T_api_Stmt (l.map Stm.v)] [] none = some ⟨.ret (.bool (Stm.endss l)), [], none⟩ := by
  refine Stm.ind_list fun l ih hl hok => ?_
  have key : ∀ i : Nat, i ≤ l.length → ref04_Returns.L1_0_1_0 (l.map Stm.v) (i : Int) = some ⟨.ret (.bool (Stm.endss (l.drop i))), [], none⟩ := by
    refine down ?_ fun i hi ihi => ?_
    · rw [ref04_Returns.L1_0_1_0_eq]; simp [Stm.endss]
    · have hm := List.getElem_mem hi
      have ho := (hok _ hm).inv'
      have h1 := (ih _ hm).1 ho.hb ho.hbs
      have h2 := (ih _ hm).2 ho.hl ho.hls
      simp only [Int.natCast_add, Int.natCast_one] at ihi
      rw [ref04_Returns.L1_0_1_0_eq, List.drop_eq_getElem_cons hi, Stm.endss, Stm.ends_is]
      by_cases k7 : l[i].kind = 7
      · simp (disch := omega) [hi, k7]
      · by_cases k4 : l[i].kind = 4
        · cases hb : Stm.endss l[i].body <;> cases hl : Stm.endss l[i].els <;> rw [hb] at h1 <;> rw [hl] at h2 <;> simp (disch := omega) [hi, k4, h1, h2, wrap_in, ihi]
        · simp (disch := omega) [hi, k7, k4, wrap_in, ihi]
  rw [ref04_Returns.eq]
  simpa using key 0 (Nat.zero_le _)
@[simp] theorem itemV_0 (p : Stm × Int) : (itemV p).getD 0 .undef = .int .i64 p.1.kind := rfl
@[simp] theorem itemV_1 (p : Stm × Int) : (itemV p).getD 1 .undef = .str (B p.1.name) := rfl
@[simp] theorem itemV_2 (p : Stm × Int) : (itemV p).getD 2 .undef = .str (B p.1.proc) := rfl
@[simp] theorem itemV_3 (p : Stm × Int) : (itemV p).getD 3 .undef = .int .i64 p.1.num := rfl
@[simp] theorem itemV_4 (p : Stm × Int) : (itemV p).getD 4 .undef = .sl .no T_api_Expr (p.1.e.map Ex.v) := rfl
@[simp] theorem itemV_5 (p : Stm × Int) : (itemV p).getD 5 .undef = .sl .no T_api_Stmt (p.1.body.map Stm.v) := rfl
@[simp] theorem itemV_6 (p : Stm × Int) : (itemV p).getD 6 .undef = .sl .no T_api_Stmt (p.1.els.map Stm.v) := rfl
@[simp] theorem itemV_7 (p : Stm × Int) : (itemV p).getD 7 .undef = .int .i64 p.2 := rfl
@[simp] theorem itemV_q0 (p : Stm × Int) : (itemV p)[0]?.getD .undef = .int .i64 p.1.kind := rfl
@[simp] theorem itemV_q1 (p : Stm × Int) : (itemV p)[1]?.getD .undef = .str (B p.1.name) := rfl
@[simp] theorem itemV_q2 (p : Stm × Int) : (itemV p)[2]?.getD .undef = .str (B p.1.proc) := rfl
@[simp] theorem itemV_q3 (p : Stm × Int) : (itemV p)[3]?.getD .undef = .int .i64 p.1.num := rfl
@[simp] theorem itemV_q4 (p : Stm × Int) : (itemV p)[4]?.getD .undef = .sl .no T_api_Expr (p.1.e.map Ex.v) := rfl
@[simp] theorem itemV_q5 (p : Stm × Int) : (itemV p)[5]?.getD .undef = .sl .no T_api_Stmt (p.1.body.map Stm.v) := rfl
@[simp] theorem itemV_q6 (p : Stm × Int) : (itemV p)[6]?.getD .undef = .sl .no T_api_Stmt (p.1.els.map Stm.v) := rfl
@[simp] theorem itemV_q7 (p : Stm × Int) : (itemV p)[7]?.getD .undef = .int .i64 p.2 := rfl
theorem ref04_Vars_is (q : Prc) (hp : q.params.length ≤ 1000000) (hc : Stm.counts q.body ≤ 1000000) : den Sp ref04_Vars.id [.agg q.v] [] none = some ⟨.ret (.sl .no T_api_Var ((varsP q).map Vr.v)), [], none⟩ := by
  obtain ⟨nm, ps, t, l⟩ := q
  simp only at hp hc
  have row := ref04_Row_is l hc 1 (by omega) (by omega)
  unfold varsP declP
  simp only
  have hlen := Stm.items_len l 1 (1 + (Stm.counts l : Int) - 1)
  generalize Stm.items l 1 (1 + (Stm.counts l : Int) - 1) = its at row hlen ⊢
  have second : ∀ (i2 : Int) (i : Nat), i ≤ its.length → ∀ acc : List Vr, acc.length + (its.length - i) ≤ 2000000 → ref04_Vars.L1_1_1_1_0_1_0 (its.map itemV) (acc.map Vr.v) i2 (i : Int) (B nm) (ps.map Par.v) t (l.map Stm.v) =
      some ⟨.ret (.sl .no T_api_Var ((acc ++ varsOf (its.drop i) ((i : Int) + 1)).map Vr.v)), [], none⟩ := by
    intro i2
    refine down (fun acc ha => ?_) fun i hi ih acc ha => ?_
    · rw [ref04_Vars.L1_1_1_1_0_1_0_eq]; simp [varsOf]
    · rw [ref04_Vars.L1_1_1_1_0_1_0_eq, List.drop_eq_getElem_cons hi]
      generalize hit : its[i] = it
      obtain ⟨s, last⟩ := it
      rw [varsOf]
      simp only [Int.natCast_add, Int.natCast_one] at ih
      by_cases k1 : s.kind = 1
      · have h3 := ih (acc ++ [varOf s ((i : Int) + 1) last]) (by simp; omega)
        rw [if_pos k1]
        unfold varOf at h3 ⊢
        by_cases k2 : s.num = -1
        · simp (disch := omega) [hi, hit, k1, k2, wrap_in, most_if]
          simp [k2, Vr.v, Int.add_assoc] at h3 ⊢
          exact h3
        · by_cases k3 : 64 < s.num
          · have e65 : (if 65 < s.num then 65 else s.num) = 65 := by split <;> omega
            simp only [if_neg k2, e65] at h3 ⊢
            simp (disch := omega) [hi, hit, k1, k2, k3, wrap_in, most_if]
            simp [Vr.v, Int.add_assoc] at h3 ⊢
            exact h3
          · have e65 : (if 65 < s.num then 65 else s.num) = s.num := by split <;> omega
            simp only [if_neg k2, e65] at h3 ⊢
            simp (disch := omega) [hi, hit, k1, k2, k3, wrap_in, most_if]
            simp [Vr.v, Int.add_assoc] at h3 ⊢
            exact h3
      · have h3 := ih acc (by omega)
        rw [if_neg k1]
        simp (disch := omega) [hi, hit, k1, wrap_in]
        simp [Int.add_assoc] at h3 ⊢
        exact h3
  have first : ∀ i : Nat, i ≤ ps.length → ∀ acc : List Vr, acc.length + (ps.length - i) ≤ 1000000 → ref04_Vars.L1_1_1_0_1_0 (its.map itemV) (acc.map Vr.v) (i : Int) (B nm) (ps.map Par.v) t (l.map Stm.v) =
      some ⟨.ret (.sl .no T_api_Var ((acc ++ (parVars ((Stm.counts l : Int) + 1) (ps.drop i) ++ varsOf its 1)).map Vr.v)), [], none⟩ := by
    refine down (fun acc ha => ?_) fun i hi ih acc ha => ?_
    · have h2 := second (ps.length : Int) 0 (Nat.zero_le _) acc (by omega)
      rw [ref04_Vars.L1_1_1_0_1_0_eq]
      simpa [parVars] using h2
    · have h3 := ih (acc ++ [⟨ps[i].name, ps[i].type, 0, 0, (Stm.counts l : Int) + 1⟩]) (by simp; omega)
      rw [ref04_Vars.L1_1_1_0_1_0_eq, List.drop_eq_getElem_cons hi, parVars]
      simp (disch := omega) [hi, hlen, wrap_in, most_if]
      simp [Vr.v] at h3 ⊢
      exact h3
  rw [Prc.v_mk, ref04_Vars.eq, row]
  have h0 := first 0 (Nat.zero_le _) [] (by simpa using hp)
  simpa using h0
theorem varsOf_mem : ∀ (its : List (Stm × Int)) (m : Int) (v : Vr), v ∈ varsOf its m → ∃ (j : Nat) (h : j < its.length), its[j].1.kind = 1 ∧ v = varOf its[j].1 (m + (j : Int)) its[j].2
  | [], m, v, h => by cases h
  | (s, last) :: l, m, v, h => by
    unfold varsOf at h
    by_cases k : s.kind = 1
    · rw [if_pos k] at h
      rcases List.mem_cons.1 h with rfl | h
      · exact ⟨0, by simp, k, by simp⟩
      · obtain ⟨j, hj, h1, h2⟩ := varsOf_mem l (m + 1) v h
        refine ⟨j + 1, by simpa using hj, h1, ?_⟩
        rw [h2]; simp only [List.getElem_cons_succ]
        congr 1; omega
    · rw [if_neg k] at h
      obtain ⟨j, hj, h1, h2⟩ := varsOf_mem l (m + 1) v h
      refine ⟨j + 1, by simpa using hj, h1, ?_⟩
      rw [h2]; simp only [List.getElem_cons_succ]
      congr 1; omega
theorem findV_mem {name : List UInt8} {mark : Int} {v : Vr} : ∀ {l : List Vr}, findV name mark l = some v → v ∈ l ∧ v.frm ≤ mark
  | a :: l, h => by
    unfold findV at h
    split at h
    · rename_i c
      cases h
      refine ⟨List.mem_cons_self .., ?_⟩
      unfold scopeP at c
      simp only [Bool.and_eq_true, decide_eq_true_eq] at c
      exact c.1.2
    · exact ⟨List.mem_cons_of_mem _ (findV_mem h).1, (findV_mem h).2⟩
theorem parVars_mem (c : Int) : ∀ (l : List Par) (v : Vr), v ∈ parVars c l → v.size = 0
  | x :: l, v, h => by
    unfold parVars at h
    rcases List.mem_cons.1 h with rfl | h
    · rfl
    · exact parVars_mem c l v h
theorem size_ok (q : Prc) (i : Nat) (hi : ∀ (j : Nat) (h : j < (Stm.flats q.body).length), j < i → (Stm.flats q.body)[j].kind = 1 → -1 ≤ (Stm.flats q.body)[j].num) (name : List UInt8) (v : Vr) (h : findV name ((i : Int) + 1) (varsP q) = some v) : 0 ≤ v.size := by
  obtain ⟨h1, h2⟩ := findV_mem h
  unfold varsP declP at h1
  rcases List.mem_append.1 h1 with h1 | h1
  · rw [parVars_mem _ _ _ h1]; omega
  · obtain ⟨j, hj, k1, rfl⟩ := varsOf_mem _ _ _ h1
    have hf := Stm.items_fst q.body 1 (1 + (Stm.counts q.body : Int) - 1)
    have hj' : j < (Stm.flats q.body).length := by rw [← hf, List.length_map]; exact hj
    have e : (Stm.flats q.body)[j] = (Stm.items q.body 1 (1 + (Stm.counts q.body : Int) - 1))[j].1 := by
      have : (Stm.flats q.body)[j]? = some (Stm.items q.body 1 (1 + (Stm.counts q.body : Int) - 1))[j].1 := by rw [← hf, List.getElem?_map, List.getElem?_eq_getElem hj]; rfl
      rw [List.getElem?_eq_getElem hj'] at this
      exact Option.some.inj this
    have hlt : j < i := by
      unfold varOf at h2; simp only at h2; omega
    have hn := hi j hj' hlt (by rw [e]; exact k1)
    rw [e] at hn
    unfold varOf
    simp only
    split
    · omega
    · split <;> omega
theorem stmtE_num {vs : List Vr} {mark : Int} {ps : List Prc} {q : Prc} {s : Stm} (h : stmtE vs mark ps q s = 0) (hk : s.kind = 1) : -1 ≤ s.num := by
  obtain ⟨k, n, p, m, e, b, l⟩ := s
  rw [stmtE_mk] at h
  simp only [Stm.kind_mk] at hk
  subst hk
  unfold stmtK at h
  by_cases c1 : b ≠ [] ∧ (1 : Int) ≠ 4 ∧ (1 : Int) ≠ 5
  · rw [if_pos c1] at h; simp at h
  rw [if_neg c1] at h
  by_cases c2 : l ≠ [] ∧ (1 : Int) ≠ 4
  · rw [if_pos c2] at h; simp at h
  rw [if_neg c2, if_pos rfl] at h
  split at h
  · simp at h
  · split at h
    · simp at h
    · simp only [Stm.num_mk]; omega
end Go.Proofs.YtmhnmelaodhemaaGreatDoor
namespace Go.Proofs.YtmhnmelaodhemaaGreatDoor
open Go Go.Proofs.Ab Go.Proofs.Px
set_option linter.unusedVariables false
set_option linter.unusedSimpArgs false
set_option maxRecDepth 100000
theorem ref04_proc_is (ps : List Prc) (hps : ps.length ≤ 140737488351232) (q : Prc) (hq : PrcOk q) (hp : q.params.length ≤ 1000000) (hc : Stm.counts q.body ≤ 1000000) :
    den Sp ref04_proc.id [.agg [.sl .no T_api_Proc (ps.map Prc.v)], .agg q.v] [] none = some ⟨.ret (.tup [.int .i64 (procE ps q).1, .int .i64 (procE ps q).2]), [], none⟩ := by
  have vars := ref04_Vars_is q hp hc
  have row := ref04_Row_is q.body hc 1 (by omega) (by omega)
  have ret := ref04_Returns_is q.body hq.body.1 hq.body.2
  have hvl : (varsP q).length ≤ 3000000 := by
    have := declP_len q.body 1
    unfold varsP
    rw [List.length_append, parVars_len]; omega
  have hfst := Stm.items_fst q.body 1 (1 + (Stm.counts q.body : Int) - 1)
  have hil := Stm.items_len q.body 1 (1 + (Stm.counts q.body : Int) - 1)
  generalize hits : Stm.items q.body 1 (1 + (Stm.counts q.body : Int) - 1) = its at row hfst hil
  have hfl := Stm.flats_len q.body
  have hfok := Stm.flats_ok hq.body.2
  have st : ∀ (mark : Int) (s : Stm), StmOk s → (∀ v, findV s.name mark (varsP q) = some v → 0 ≤ v.size) → den Sp ref04_stmt.id [.agg [.sl .no T_api_Proc (ps.map Prc.v)], .agg q.v, .agg s.v, .sl .no T_api_Var ((varsP q).map Vr.v), .int .i64 mark] [] none = some ⟨.ret (.int .i64 (stmtE (varsP q) mark ps q s)), [], none⟩ := fun mark s hs hv => by
    obtain ⟨k, n, p, m, e, b, l⟩ := s
    exact ref04_stmt_is (varsP q) (by omega) mark ps hps q k n p m e b l hs.inv.he hv
  have size_ok := size_ok q
  have rm := runE_mark (fun m s => stmtE (varsP q) m ps q s) (Stm.flats q.body) 0
  unfold procE
  generalize hfd : Stm.flats q.body = fl at *
  generalize hvd : varsP q = vs at *
  have hlen : its.length = fl.length := by omega
  have hat : ∀ (i : Nat) (h : i < its.length), its[i].1 = fl[i] := fun i h => by
    have h1 : fl[i]? = some its[i].1 := by rw [← hfst, List.getElem?_map, List.getElem?_eq_getElem h]; rfl
    rw [List.getElem?_eq_getElem (by omega)] at h1
    exact (Option.some.inj h1).symm
  have hqv : q.v = [V.str (B q.name), V.sl .no T_api_Param (q.params.map Par.v), V.int .i64 q.type, V.sl .no T_api_Stmt (q.body.map Stm.v)] := rfl
  rw [hqv] at vars st ⊢
  have stm : ∀ (x1 x2 : Int) (i : Nat), i ≤ fl.length → (∀ (j : Nat) (h : j < fl.length), j < i → fl[j].kind = 1 → -1 ≤ fl[j].num) → ref04_proc.L1_1_1_1_1_0_1_0 (vs.map Vr.v) x1 x2 (its.map itemV) (i : Int) (ps.map Prc.v) (B q.name) (q.params.map Par.v) q.type (q.body.map Stm.v) =
      some ⟨.ret (.tup (if (runE (fun m s => stmtE vs m ps q s) (i : Int) (fl.drop i)).2 ≠ 0 then [.int .i64 (runE (fun m s => stmtE vs m ps q s) (i : Int) (fl.drop i)).1, .int .i64 (runE (fun m s => stmtE vs m ps q s) (i : Int) (fl.drop i)).2] else if q.type = 0 ∨ Stm.endss q.body = true then [.int .i64 0, .int .i64 0] else [.int .i64 ((fl.length : Int) + 1), .int .i64 43])), [], none⟩ := by
    intro x1 x2
    refine down (fun hQ => ?_) fun i hi ih hQ => ?_
    · rw [ref04_proc.L1_1_1_1_1_0_1_0_eq]
      by_cases t : q.type = 0
      · simp [runE, hlen, t]
      · cases he : Stm.endss q.body with
        | true => rw [he] at ret; simp [runE, hlen, t, ret]
        | false => rw [he] at ret; simp (disch := omega) [runE, hlen, t, ret, wrap_in]
    · have hi' : i < its.length := by omega
      have hmem := List.getElem_mem hi
      have hfi : its[i].1 = fl[i] := hat i hi'
      have hs := st ((i : Int) + 1) fl[i] (hfok _ hmem) (size_ok i hQ fl[i].name)
      rw [ref04_proc.L1_1_1_1_1_0_1_0_eq, List.drop_eq_getElem_cons hi, runE]
      simp only [Int.natCast_add, Int.natCast_one] at ih
      by_cases e0 : stmtE vs ((i : Int) + 1) ps q fl[i] = 0
      · have ih := ih (fun j h hj hk => by
          rcases Nat.lt_or_ge j i with hji | hji
          · exact hQ j h hji hk
          · obtain rfl : j = i := by omega
            exact stmtE_num e0 hk)
        rw [e0] at hs
        simp (disch := omega) [hi', hfi, wrap_in, hs, e0, ih]
      · simp (disch := omega) [hi', hfi, wrap_in, hs, e0]
  have stmv : ∀ i : Nat, i ≤ fl.length → (∀ (j : Nat) (h : j < fl.length), j < i → fl[j].kind = 1 → -1 ≤ fl[j].num) → ref04_proc.L1_1_1_1_1_0_1_0v1 (vs.map Vr.v) (its.map itemV) (i : Int) (ps.map Prc.v) (B q.name) (q.params.map Par.v) q.type (q.body.map Stm.v) =
      some ⟨.ret (.tup (if (runE (fun m s => stmtE vs m ps q s) (i : Int) (fl.drop i)).2 ≠ 0 then [.int .i64 (runE (fun m s => stmtE vs m ps q s) (i : Int) (fl.drop i)).1, .int .i64 (runE (fun m s => stmtE vs m ps q s) (i : Int) (fl.drop i)).2] else if q.type = 0 ∨ Stm.endss q.body = true then [.int .i64 0, .int .i64 0] else [.int .i64 ((fl.length : Int) + 1), .int .i64 43])), [], none⟩ := by
    refine down (fun hQ => ?_) fun i hi ih hQ => ?_
    · rw [ref04_proc.L1_1_1_1_1_0_1_0v1_eq]
      by_cases t : q.type = 0
      · simp [runE, hlen, t]
      · cases he : Stm.endss q.body with
        | true => rw [he] at ret; simp [runE, hlen, t, ret]
        | false => rw [he] at ret; simp (disch := omega) [runE, hlen, t, ret, wrap_in]
    · have hi' : i < its.length := by omega
      have hmem := List.getElem_mem hi
      have hfi : its[i].1 = fl[i] := hat i hi'
      have hs := st ((i : Int) + 1) fl[i] (hfok _ hmem) (size_ok i hQ fl[i].name)
      rw [ref04_proc.L1_1_1_1_1_0_1_0v1_eq, List.drop_eq_getElem_cons hi, runE]
      simp only [Int.natCast_add, Int.natCast_one] at ih
      by_cases e0 : stmtE vs ((i : Int) + 1) ps q fl[i] = 0
      · have ih := ih (fun j h hj hk => by
          rcases Nat.lt_or_ge j i with hji | hji
          · exact hQ j h hji hk
          · obtain rfl : j = i := by omega
            exact stmtE_num e0 hk)
        rw [e0] at hs
        simp (disch := omega) [hi', hfi, wrap_in, hs, e0, ih]
      · simp (disch := omega) [hi', hfi, wrap_in, hs, e0]
  have fin : ∀ r : Int × Int, r = runE (fun m s => stmtE vs m ps q s) 0 fl → (if r.2 ≠ 0 then [V.int .i64 r.1, V.int .i64 r.2] else if q.type = 0 ∨ Stm.endss q.body = true then [.int .i64 0, .int .i64 0] else [.int .i64 ((fl.length : Int) + 1), .int .i64 43]) = [V.int .i64 (if r.2 ≠ 0 then r else if q.type = 0 ∨ Stm.endss q.body = true then (0, 0) else (r.1 + 1, 43)).1, .int .i64 (if r.2 ≠ 0 then r else if q.type = 0 ∨ Stm.endss q.body = true then (0, 0) else (r.1 + 1, 43)).2] := by
    intro r hr
    by_cases c1 : r.2 = 0
    · by_cases c2 : q.type = 0 ∨ Stm.endss q.body = true
      · simp [c1, c2]
      · have := rm.2.2 (by rw [← hr]; exact c1)
        rw [← hr] at this
        simp [c1, c2, this]
    · simp [c1]
  have fin := fin _ rfl
  have tail : ∀ x1 x2 : Int, ref04_proc.L1_1_1_1_1_0_1_0 (vs.map Vr.v) x1 x2 (its.map itemV) 0 (ps.map Prc.v) (B q.name) (q.params.map Par.v) q.type (q.body.map Stm.v) = _ := fun x1 x2 => stm x1 x2 0 (Nat.zero_le _) (fun j h hj => absurd hj (Nat.not_lt_zero _))
  have tailv : ref04_proc.L1_1_1_1_1_0_1_0v1 (vs.map Vr.v) (its.map itemV) 0 (ps.map Prc.v) (B q.name) (q.params.map Par.v) q.type (q.body.map Stm.v) = _ := stmv 0 (Nat.zero_le _) (fun j h hj => absurd hj (Nat.not_lt_zero _))
  rw [List.drop_zero] at tail tailv
  simp only [Int.natCast_zero] at tail tailv
  rw [fin] at tail tailv
  clear fin stm stmv
  generalize (if (runE (fun m s => stmtE vs m ps q s) 0 fl).2 ≠ 0 then runE (fun m s => stmtE vs m ps q s) 0 fl else if q.type = 0 ∨ Stm.endss q.body = true then (0, 0) else ((runE (fun m s => stmtE vs m ps q s) 0 fl).1 + 1, 43)) = W at tail tailv ⊢
  have inner : ∀ i (hi : i < vs.length), (∀ x : Int, ref04_proc.L1_1_1_0_1_0v1 (vs.map Vr.v) ((i + 1 : Nat) : Int) x (ps.map Prc.v) (B q.name) (q.params.map Par.v) q.type (q.body.map Stm.v) = some ⟨.ret (.tup (if dupP ((vs.map (·.name)).drop (i + 1)) ((vs.map (·.name)).take (i + 1)) then [.int .i64 0, .int .i64 40] else [.int .i64 W.1, .int .i64 W.2])), [], none⟩) →
      ∀ k : Nat, k ≤ i → ref04_proc.L1_1_1_0_1_0_0_1_0_0_1_0 (vs.map Vr.v) (i : Int) (k : Int) (ps.map Prc.v) (B q.name) (q.params.map Par.v) q.type (q.body.map Stm.v) = some ⟨.ret (.tup (if vs[i].name ∈ ((vs.map (·.name)).take i).drop k ∨ dupP ((vs.map (·.name)).drop (i + 1)) ((vs.map (·.name)).take (i + 1)) = true then [.int .i64 0, .int .i64 40] else [.int .i64 W.1, .int .i64 W.2])), [], none⟩ := by
    intro i hi hn
    refine down ?_ fun k hk ih => ?_
    · have h2 := hn (i : Int)
      simp only [Int.natCast_add, Int.natCast_one] at h2
      have e : ((vs.map (·.name)).take i).drop i = [] := by rw [List.drop_eq_nil_iff, List.length_take]; omega
      rw [ref04_proc.L1_1_1_0_1_0_0_1_0_0_1_0_eq, e]
      simp (disch := omega) [wrap_in, h2]
    · have hk' : k < vs.length := by omega
      have e : ((vs.map (·.name)).take i).drop k = vs[k].name :: ((vs.map (·.name)).take i).drop (k + 1) := by
        rw [List.drop_eq_getElem_cons (by rw [List.length_take, List.length_map]; omega), List.getElem_take, List.getElem_map]
      simp only [Int.natCast_add, Int.natCast_one] at ih
      rw [ref04_proc.L1_1_1_0_1_0_0_1_0_0_1_0_eq, e]
      simp only [List.mem_cons]
      by_cases c : vs[k].name = vs[i].name
      · simp (disch := omega) [hi, hk, hk', c]
      · have c' : ¬ vs[i].name = vs[k].name := fun h => c h.symm
        simp (disch := omega) [hi, hk, hk', c, c', wrap_in]
        simpa using ih
  have outer : ∀ i : Nat, i ≤ vs.length → ∀ x : Int, ref04_proc.L1_1_1_0_1_0v1 (vs.map Vr.v) (i : Int) x (ps.map Prc.v) (B q.name) (q.params.map Par.v) q.type (q.body.map Stm.v) = some ⟨.ret (.tup (if dupP ((vs.map (·.name)).drop i) ((vs.map (·.name)).take i) then [.int .i64 0, .int .i64 40] else [.int .i64 W.1, .int .i64 W.2])), [], none⟩ := by
    refine down (fun x => ?_) fun i hi ih x => ?_
    · have e : (vs.map (·.name)).drop vs.length = [] := by rw [List.drop_eq_nil_iff, List.length_map]; omega
      rw [ref04_proc.L1_1_1_0_1_0v1_eq, e, dupP, row]
      simp [tail]
    · have h2 := inner i hi ih 0 (Nat.zero_le _)
      have hi2 : i < (vs.map (·.name)).length := by rw [List.length_map]; exact hi
      have e1 : (vs.map (·.name)).drop i = vs[i].name :: (vs.map (·.name)).drop (i + 1) := by rw [List.drop_eq_getElem_cons hi2, List.getElem_map]
      have e2 : (vs.map (·.name)).take i ++ [vs[i].name] = (vs.map (·.name)).take (i + 1) := by rw [List.take_succ_eq_append_getElem hi2, List.getElem_map]
      rw [ref04_proc.L1_1_1_0_1_0v1_eq, e1, dupP, e2]
      simp only [List.drop_zero, Int.natCast_zero] at h2
      have hii : (i : Int) < (vs.length : Int) := by omega
      simp only [List.length_map, decide_eq_true hii, cond_true]
      rw [h2]
      by_cases c : vs[i].name ∈ (vs.map (·.name)).take i <;> simp [c]
  rw [ref04_proc.eq, vars]
  by_cases d1 : 8 < q.params.length
  · simp [d1, show (8 : Int) < (q.params.length : Int) by omega]
  by_cases d2 : 60 < vs.length
  · simp [d1, d2, show ¬ (8 : Int) < (q.params.length : Int) by omega, show (60 : Int) < (vs.length : Int) by omega]
  have h0 : ref04_proc.L1_1_1_0_1_0 (vs.map Vr.v) (ps.map Prc.v) (B q.name) (q.params.map Par.v) q.type (q.body.map Stm.v) = some ⟨.ret (.tup (if dupP (vs.map (·.name)) [] then [.int .i64 0, .int .i64 40] else [.int .i64 W.1, .int .i64 W.2])), [], none⟩ := by
    rw [ref04_proc.L1_1_1_0_1_0_eq]
    rcases Nat.eq_zero_or_pos vs.length with hz | hi
    · obtain hz := List.eq_nil_of_length_eq_zero hz
      rw [hz] at tailv ⊢
      rw [row]
      simp only [List.map_nil] at tailv
      simp [tailv, dupP]
    · have h2 := inner 0 hi (outer 1 hi) 0 (Nat.zero_le _)
      have hi2 : 0 < (vs.map (·.name)).length := by rw [List.length_map]; exact hi
      have h3 := outer 0 (Nat.zero_le _) 0
      rw [ref04_proc.L1_1_1_0_1_0v1_eq] at h3
      simp only [List.length_map, Int.natCast_zero, decide_eq_true (show (0 : Int) < (vs.length : Int) by omega), cond_true, List.drop_zero, List.take_zero] at h3 ⊢
      exact h3
  simp [d1, d2, show ¬ (8 : Int) < (q.params.length : Int) by omega, show ¬ (60 : Int) < (vs.length : Int) by omega, h0]
  by_cases g : dupP (vs.map (·.name)) [] = true <;> simp [g]
end Go.Proofs.YtmhnmelaodhemaaGreatDoor
namespace Go.Proofs.YtmhnmelaodhemaaGreatDoor
open Go Go.Proofs.Ab Go.Proofs.Px
set_option linter.unusedVariables false
set_option linter.unusedSimpArgs false
set_option maxRecDepth 100000
theorem ref04_Check_is (ps : List Prc) (hok : ∀ q ∈ ps, PrcOk q) (hs : Prc.sizes ps ≤ 1000000) : den Sp ref04_Check.id [.agg [.sl .no T_api_Proc (ps.map Prc.v)]] [] none = checkR ps := by
  have hlen := Prc.sizes_len ps
  have hq : ∀ q ∈ ps, q.params.length ≤ 1000000 ∧ Stm.counts q.body ≤ 1000000 := fun q h => by
    have h1 := Prc.size_mem h
    have h2 := Stm.counts_sizes q.body
    unfold Prc.size at h1
    omega
  have procs : ∀ (b : Bool) (x1 x2 : Int) (i : Nat), i ≤ ps.length → ∀ (vs : List (List Vr)) (ms : List Int), vs.length + (ps.length - i) ≤ 1000000 → ms.length + (ps.length - i) ≤ 1000000 → ref04_Check.L1_1_1_1_1_1_0_1_0 b x1 x2 (i : Int) (ps.map Prc.v) (vrows vs) (iv ms) =
      match procsE ps (ps.drop i) (i : Int) with
      | some r => some ⟨.ret (.tup [infoV [] [], .agg [.int .i64 r.1, .int .i64 r.2.1], .int .i64 r.2.2]), [], none⟩
      | none => some ⟨.ret (.tup [infoV (vs ++ (ps.drop i).map varsP) (ms ++ (ps.drop i).map fun q : Prc => (Stm.counts q.body : Int)), .agg [.int .i64 0, .int .i64 0], .int .i64 0]), [], none⟩ := by
    intro b x1 x2
    refine down (fun vs ms _ _ => ?_) fun i hi ih vs ms hv hm => ?_
    · rw [ref04_Check.L1_1_1_1_1_1_0_1_0_eq]; simp [procsE, infoV]
    · have hmem := List.getElem_mem hi
      have hc := ref04_proc_is ps (by omega) ps[i] (hok _ hmem) (hq _ hmem).1 (hq _ hmem).2
      have hvr := ref04_Vars_is ps[i] (hq _ hmem).1 (hq _ hmem).2
      have c1 := ref04_total_is ps[i].body (hq _ hmem).2
      have hqv : ps[i].v = [V.str (B ps[i].name), V.sl .no T_api_Param (ps[i].params.map Par.v), V.int .i64 ps[i].type, V.sl .no T_api_Stmt (ps[i].body.map Stm.v)] := rfl
      rw [hqv] at hc hvr
      rw [ref04_Check.L1_1_1_1_1_1_0_1_0_eq, List.drop_eq_getElem_cons hi, procsE]
      by_cases e0 : (procE ps ps[i]).2 = 0
      · have h3 := ih (vs ++ [varsP ps[i]]) (ms ++ [(Stm.counts ps[i].body : Int)]) (by simp; omega) (by simp; omega)
        simp only [Int.natCast_add, Int.natCast_one] at h3
        have e1 : vrows (vs ++ [varsP ps[i]]) = vrows vs ++ [[.sl .no T_api_Var ((varsP ps[i]).map Vr.v)]] := by simp [vrows]
        have e2 : iv (ms ++ [(Stm.counts ps[i].body : Int)]) = iv ms ++ [[.int .i64 (Stm.counts ps[i].body : Int)]] := by simp [iv]
        rw [e1, e2] at h3
        simp (disch := omega) [hi, hc, hvr, e0, c1, most_if, wrap_in, List.getElem?_cons_zero]
        rw [h3]
        cases procsE ps (List.drop (i + 1) ps) ((i : Int) + 1)
        · simp only [List.map_cons, List.append_assoc, List.singleton_append]
          rw [← List.map_drop, ← List.map_drop, List.drop_eq_getElem_cons hi, List.map_cons, List.map_cons]
        · rfl
      · simp (disch := omega) [hi, hc, e0, infoV, List.getElem?_cons_zero]
        rfl
  have e40 : ∀ x : Option Res, x = x := fun x => rfl
  have after : ∀ (b : Bool) (x1 x2 : Int), (bif (!b) then some (Res.mk (.ret (.tup [.agg [.sl .no T_L_api_Var [], .sl .no T_int []], .agg [.int .i64 0, .int .i64 0], .int .i64 42])) [] none) else ref04_Check.L1_1_1_1_1_1_0_1_0 b x1 x2 0 (ps.map Prc.v) [] []) =
      (if b = true then (match procsE ps ps 0 with
      | some r => some ⟨.ret (.tup [infoV [] [], .agg [.int .i64 r.1, .int .i64 r.2.1], .int .i64 r.2.2]), [], none⟩
      | none => some ⟨.ret (.tup [infoV (ps.map varsP) (ps.map fun q : Prc => (Stm.counts q.body : Int)), .agg [.int .i64 0, .int .i64 0], .int .i64 0]), [], none⟩) else some ⟨.ret (.tup [infoV [] [], .agg [.int .i64 0, .int .i64 0], .int .i64 42]), [], none⟩) := by
    intro b x1 x2
    cases b with
    | false => simp [infoV, vrows]
    | true =>
      have h0 := procs true x1 x2 0 (Nat.zero_le _) [] [] (by simp; omega) (by simp; omega)
      rw [show vrows [] = [] from rfl, show iv [] = [] from rfl] at h0
      simp only [List.drop_zero, Int.natCast_zero, List.nil_append] at h0
      simpa using h0
  generalize hA : (match procsE ps ps 0 with
      | some r => some (Res.mk (.ret (.tup [infoV [] [], .agg [.int .i64 r.1, .int .i64 r.2.1], .int .i64 r.2.2])) [] none)
      | none => some ⟨.ret (.tup [infoV (ps.map varsP) (ps.map fun q : Prc => (Stm.counts q.body : Int)), .agg [.int .i64 0, .int .i64 0], .int .i64 0]), [], none⟩) = A at after
  have fin : ∀ b : Bool, (if b = true then A else some (Res.mk (.ret (.tup [infoV [] [], .agg [.int .i64 0, .int .i64 0], .int .i64 42])) [] none)) = (if b = true then A else some ⟨.ret (.tup [infoV [] [], .agg [.int .i64 0, .int .i64 0], .int .i64 42]), [], none⟩) := fun b => rfl
  have inner : ∀ (b : Bool) (i : Nat) (hi : i < ps.length), (∀ x : Int, ref04_Check.L1_1_1_0_1_0v1 b ((i + 1 : Nat) : Int) x (ps.map Prc.v) = if dupP ((ps.map (·.name)).drop (i + 1)) ((ps.map (·.name)).take (i + 1)) = true then some ⟨.ret (.tup [infoV [] [], .agg [.int .i64 0, .int .i64 0], .int .i64 40]), [], none⟩ else if (b || (ps.drop (i + 1)).any mainP) = true then A else some ⟨.ret (.tup [infoV [] [], .agg [.int .i64 0, .int .i64 0], .int .i64 42]), [], none⟩) →
      ∀ k : Nat, k ≤ i → ref04_Check.L1_1_1_0_1_0_0_1_0_0_1_1_1_0 b (i : Int) (k : Int) (ps.map Prc.v) (B ps[i].name) (ps[i].params.map Par.v) ps[i].type (ps[i].body.map Stm.v) = if ps[i].name ∈ ((ps.map (·.name)).take i).drop k ∨ dupP ((ps.map (·.name)).drop (i + 1)) ((ps.map (·.name)).take (i + 1)) = true then some ⟨.ret (.tup [infoV [] [], .agg [.int .i64 0, .int .i64 0], .int .i64 40]), [], none⟩ else if (b || (ps.drop (i + 1)).any mainP) = true then A else some ⟨.ret (.tup [infoV [] [], .agg [.int .i64 0, .int .i64 0], .int .i64 42]), [], none⟩ := by
    intro b i hi hn
    refine down ?_ fun k hk ih => ?_
    · have h2 := hn (i : Int)
      simp only [Int.natCast_add, Int.natCast_one] at h2
      have e : ((ps.map (·.name)).take i).drop i = [] := by rw [List.drop_eq_nil_iff, List.length_take]; omega
      rw [ref04_Check.L1_1_1_0_1_0_0_1_0_0_1_1_1_0_eq, e, decide_eq_false (Int.lt_irrefl _), cond_false, wrap_in (by omega) (by omega), h2]
      simp only [List.not_mem_nil, false_or]
    · have hk' : k < ps.length := by omega
      have e : ((ps.map (·.name)).take i).drop k = ps[k].name :: ((ps.map (·.name)).take i).drop (k + 1) := by
        rw [List.drop_eq_getElem_cons (by rw [List.length_take, List.length_map]; omega), List.getElem_take, List.getElem_map]
      simp only [Int.natCast_add, Int.natCast_one] at ih
      rw [ref04_Check.L1_1_1_0_1_0_0_1_0_0_1_1_1_0_eq, e]
      simp only [List.mem_cons]
      by_cases c : ps[k].name = ps[i].name
      · simp (disch := omega) [hi, hk, hk', c, infoV, vrows]
      · have c' : ¬ ps[i].name = ps[k].name := fun h => c h.symm
        rw [decide_eq_true (show (k : Int) < (i : Int) by omega), cond_true, List.length_map, if_pos (in_row hk'), Int.toNat_natCast, map_at _ _ _ hk', Prc.v_0, asStr_str, B_dec, decide_eq_false c, cond_false, wrap_in (by omega) (by omega), ih]
        simp only [c', false_or]
  have outer : ∀ i : Nat, i ≤ ps.length → ∀ (b : Bool) (x : Int), ref04_Check.L1_1_1_0_1_0v1 b (i : Int) x (ps.map Prc.v) = if dupP ((ps.map (·.name)).drop i) ((ps.map (·.name)).take i) = true then some ⟨.ret (.tup [infoV [] [], .agg [.int .i64 0, .int .i64 0], .int .i64 40]), [], none⟩ else if (b || (ps.drop i).any mainP) = true then A else some ⟨.ret (.tup [infoV [] [], .agg [.int .i64 0, .int .i64 0], .int .i64 42]), [], none⟩ := by
    refine down (fun b x => ?_) fun i hi ih b x => ?_
    · have e : (ps.map (·.name)).drop ps.length = [] := by rw [List.drop_eq_nil_iff, List.length_map]; omega
      rw [ref04_Check.L1_1_1_0_1_0v1_eq, e, dupP, List.length_map, decide_eq_false (Int.lt_irrefl _), cond_false, after, List.drop_length]
      simp only [List.any_nil, Bool.or_false, Bool.false_eq_true, if_false]
    · have hi2 : i < (ps.map (·.name)).length := by rw [List.length_map]; exact hi
      have e1 : (ps.map (·.name)).drop i = ps[i].name :: (ps.map (·.name)).drop (i + 1) := by rw [List.drop_eq_getElem_cons hi2, List.getElem_map]
      have e2 : (ps.map (·.name)).take i ++ [ps[i].name] = (ps.map (·.name)).take (i + 1) := by rw [List.take_succ_eq_append_getElem hi2, List.getElem_map]
      have h2 := fun b => inner b i hi (fun x => ih b x) 0 (Nat.zero_le _)
      simp only [List.drop_zero, Int.natCast_zero] at h2
      have h2' : ∀ b b2 : Bool, (b2 || (ps.drop i).any mainP) = (b || (ps.drop (i + 1)).any mainP) → ref04_Check.L1_1_1_0_1_0_0_1_0_0_1_1_1_0 b (i : Int) 0 (ps.map Prc.v) (B ps[i].name) (ps[i].params.map Par.v) ps[i].type (ps[i].body.map Stm.v) = if dupP ((ps.map (·.name)).drop i) ((ps.map (·.name)).take i) = true then some ⟨.ret (.tup [infoV [] [], .agg [.int .i64 0, .int .i64 0], .int .i64 40]), [], none⟩ else if (b2 || (ps.drop i).any mainP) = true then A else some ⟨.ret (.tup [infoV [] [], .agg [.int .i64 0, .int .i64 0], .int .i64 42]), [], none⟩ := fun b b2 hb => by
        rw [h2 b, e1, dupP, e2, hb]
        simp only [Bool.or_eq_true, decide_eq_true_eq]
      have hd : (ps.drop i).any mainP = (mainP ps[i] || (ps.drop (i + 1)).any mainP) := by rw [List.drop_eq_getElem_cons hi, List.any_cons]
      rw [ref04_Check.L1_1_1_0_1_0v1_eq, List.length_map, decide_eq_true (show (i : Int) < (ps.length : Int) by omega), cond_true, if_pos (in_row hi), Int.toNat_natCast, map_at _ _ _ hi]
      simp only [Prc.v_0, Prc.v_1, Prc.v_2, Prc.v_3, asStr_str, asSl_sl, asInt_int, List.length_map]
      cases b with
      | true =>
        rw [cond_true]
        exact h2' true true (by simp)
      | false =>
        rw [cond_false]
        have hm : mainP ps[i] = (decide (ps[i].name = [109, 97, 105, 110]) && decide (ps[i].params.length = 0) && decide (ps[i].type = 0)) := rfl
        rw [hm] at hd
        by_cases c1 : ps[i].name = [109, 97, 105, 110]
        · by_cases c2 : ps[i].params.length = 0
          · have e3 : ((ps[i].params.length : Int) == 0) = true := by simp [c2]
            have e4 : decide (B ps[i].name = ByteArray.mk #[109, 97, 105, 110]) = true := by rw [c1]; rfl
            rw [e4, cond_true, e3, cond_true]
            refine h2' _ false ?_
            rw [hd]
            simp [c1, c2]
          · have e3 : ((ps[i].params.length : Int) == 0) = false := by simp; intro h; rw [h] at c2; exact c2 rfl
            have e4 : decide (B ps[i].name = ByteArray.mk #[109, 97, 105, 110]) = true := by rw [c1]; rfl
            rw [e4, cond_true, e3, cond_false]
            refine h2' _ false ?_
            rw [hd]
            simp [c2]
        · have e4 : decide (B ps[i].name = ByteArray.mk #[109, 97, 105, 110]) = false := by
            rw [decide_eq_false_iff_not]; intro h
            exact c1 (B_inj.1 h)
          rw [e4, cond_false]
          refine h2' _ false ?_
          rw [hd]
          simp [c1]
  rw [ref04_Check.eq]
  unfold checkR checkP wholeE
  by_cases c40 : 40 < ps.length
  · simp [c40, show (40 : Int) < (ps.length : Int) by omega, infoV, vrows]
  have hstart : ref04_Check.L1_1_1_0_1_0 (ps.map Prc.v) = ref04_Check.L1_1_1_0_1_0v1 false 0 0 (ps.map Prc.v) := by
    rw [ref04_Check.L1_1_1_0_1_0_eq, ref04_Check.L1_1_1_0_1_0v1_eq]
    rfl
  have h0 := outer 0 (Nat.zero_le _) false 0
  simp only [Int.natCast_zero, List.drop_zero, List.take_zero, Bool.false_or] at h0
  rw [hstart, h0]
  by_cases cd : dupP (ps.map (·.name)) [] = true
  · simp [c40, show ¬ (40 : Int) < (ps.length : Int) by omega, cd]
  · by_cases cm : ps.any mainP = true
    · simp only [List.length_map, decide_eq_false (show ¬ (ps.length : Int) > 40 by omega), cond_false, if_neg cd, if_pos cm, if_neg c40, ne_eq, not_true_eq_false, if_false]
      rw [← hA]
      cases hp : procsE ps ps 0 with
      | none => rfl
      | some r =>
        have hr := procsE_ne hp
        simp only [Option.getD_some, if_neg hr]
    · simp [c40, show ¬ (40 : Int) < (ps.length : Int) by omega, cd, cm]
end Go.Proofs.YtmhnmelaodhemaaGreatDoor
namespace Go.Proofs.YtmhnmelaodhemaaGreatDoor
open Go Go.Proofs.Ab
set_option maxRecDepth 100000
set_option linter.unusedVariables false
namespace ref12_Proc
noncomputable abbrev e (p : List Nat) := ev Sp (den Sp) id Tryz.f97.ntmps (cAt (bodyOf Tryz.f97) p)
noncomputable abbrev cn (n0 : List Nat) := canon Sp id n0
noncomputable abbrev K : K := kFin Sp (den Sp) Tryz.f97 0
noncomputable def L1_0_1_0 (s0 : ByteArray) (i1 : Int) (l2 : List (List V)) : Option Res := LP (e [1, 0, 1, 0, 0]) (cn [1002]) (kBlk 0 (kSeq (e [1, 1]) (K))) ([(1, (V.str s0)), (2, (V.ref 1002 0)), (5, (V.int .i64 i1))], ⟨[(1002, (Blk.cells T_api_Prog [(V.sl .no T_api_Proc l2)] false))], [], [], [], none⟩)
theorem L1_0_1_0_eq (s0 : ByteArray) (i1 : Int) (l2 : List (List V)) : L1_0_1_0 s0 i1 l2 =
    (bif (decide (i1 < (l2.length : Int))) then (if (((0 : Int) ≤ i1) ∧ (i1 < (l2.length : Int))) then (V.asStr (List.getD (List.getD l2 (Int.toNat i1) []) 0 V.undef) (fun s9 => (bif (decide (s9 = s0)) then (some ⟨(Out.ret (V.int .i64 i1)), [], none⟩) else (L1_0_1_0 s0 (IntKind.wrap .i64 (i1 + (1 : Int))) l2)))) else none) else (some ⟨(Out.ret (V.int .i64 (Neg.neg (1 : Int)))), [], none⟩)) := (LP_eq ..).trans (by kernel_rfl)
theorem eq (a0_0 : List (List V)) (a1 : ByteArray) : den Sp id [(V.agg [(V.sl .no T_api_Proc a0_0)]), (V.str a1)] [] none =
    (L1_0_1_0 a1 (0 : Int) a0_0) := (den_eq ..).trans (by kernel_rfl)
end ref12_Proc
namespace ref12_Var
noncomputable abbrev e (p : List Nat) := ev Sp (den Sp) id Tryz.f53.ntmps (cAt (bodyOf Tryz.f53) p)
noncomputable abbrev cn (n0 : List Nat) := canon Sp id n0
noncomputable abbrev K : K := kFin Sp (den Sp) Tryz.f53 0
noncomputable def L1_1_1_1_0_1_0 (s0 : ByteArray) (l1 : List (List V)) (i2 : Int) (l3 : List (List V)) : Option Res := LP (e [1, 1, 1, 1, 0, 1, 0, 0]) (cn [1003, 1006]) (kBlk 0 (kSeq (e [1, 1, 1, 1, 1]) (K))) ([(2, (V.str s0)), (6, (V.ref 1006 0)), (9, (V.sl .no T_api_Var l1)), (10, (V.int .i64 i2))], ⟨[(1003, (Blk.cells T_api_Prog [(V.sl .no T_api_Proc l3)] false)), (1006, (Blk.cells T_api_Var [(V.str (ByteArray.mk #[])), (V.int .i64 (0 : Int)), (V.int .i64 (0 : Int)), (V.int .i64 (0 : Int)), (V.int .i64 (0 : Int))] false))], [], [], [], none⟩)
theorem L1_1_1_1_0_1_0_eq (s0 : ByteArray) (l1 : List (List V)) (i2 : Int) (l3 : List (List V)) : L1_1_1_1_0_1_0 s0 l1 i2 l3 =
    (bif (decide (i2 < (l1.length : Int))) then (if (((0 : Int) ≤ i2) ∧ (i2 < (l1.length : Int))) then (V.asStr (List.getD (List.getD l1 (Int.toNat i2) []) 0 V.undef) (fun s24 => (bif (decide (s24 = s0)) then (if (((0 : Int) ≤ i2) ∧ (i2 < (l1.length : Int))) then (V.asStr (List.getD (List.getD l1 (Int.toNat i2) []) 0 V.undef) (fun s26 => (V.asInt (List.getD (List.getD l1 (Int.toNat i2) []) 1 V.undef) .i64 (fun n27 => (V.asInt (List.getD (List.getD l1 (Int.toNat i2) []) 2 V.undef) .i64 (fun n28 => (V.asInt (List.getD (List.getD l1 (Int.toNat i2) []) 3 V.undef) .i64 (fun n29 => (V.asInt (List.getD (List.getD l1 (Int.toNat i2) []) 4 V.undef) .i64 (fun n30 => (some ⟨(Out.ret (V.tup [(V.agg [(V.str s26), (V.int .i64 n27), (V.int .i64 n28), (V.int .i64 n29), (V.int .i64 n30)]), (V.bool true)])), [], none⟩))))))))))) else none) else (L1_1_1_1_0_1_0 s0 l1 (IntKind.wrap .i64 (i2 + (1 : Int))) l3)))) else none) else (some ⟨(Out.ret (V.tup [(V.agg [(V.str (ByteArray.mk #[])), (V.int .i64 (0 : Int)), (V.int .i64 (0 : Int)), (V.int .i64 (0 : Int)), (V.int .i64 (0 : Int))]), (V.bool false)])), [], none⟩)) := (LP_eq ..).trans (by kernel_rfl)
theorem eq (a0_0 : List (List V)) (a1 a2 : ByteArray) : den Sp id [(V.agg [(V.sl .no T_api_Proc a0_0)]), (V.str a1), (V.str a2)] [] none =
    ((den Sp ref12_Proc.id [(V.agg [(V.sl .no T_api_Proc a0_0)]), (V.str a1)] [] none)).bind (fun r5 => (Res.onRet r5 (fun v6 => (V.asInt v6 .i64 (fun n7 => (bif (decide (n7 < (0 : Int))) then (some ⟨(Out.ret (V.tup [(V.agg [(V.str (ByteArray.mk #[])), (V.int .i64 (0 : Int)), (V.int .i64 (0 : Int)), (V.int .i64 (0 : Int)), (V.int .i64 (0 : Int))]), (V.bool false)])), [], none⟩) else (if (((0 : Int) ≤ n7) ∧ (n7 < (a0_0.length : Int))) then (V.asStr (List.getD (List.getD a0_0 (Int.toNat n7) []) 0 V.undef) (fun s10 => (V.asSl (List.getD (List.getD a0_0 (Int.toNat n7) []) 1 V.undef) T_api_Param (fun es11 => (V.asInt (List.getD (List.getD a0_0 (Int.toNat n7) []) 2 V.undef) .i64 (fun n12 => (V.asSl (List.getD (List.getD a0_0 (Int.toNat n7) []) 3 V.undef) T_api_Stmt (fun es13 => ((den Sp ref04_Vars.id [(V.agg [(V.str s10), (V.sl .no T_api_Param es11), (V.int .i64 n12), (V.sl .no T_api_Stmt es13)])] [] none)).bind (fun r14 => (Res.onRet r14 (fun v15 => (V.asSl v15 T_api_Var (fun es16 => (L1_1_1_1_0_1_0 a2 es16 (0 : Int) a0_0)))))))))))))) else none))))))) := (den_eq ..).trans (by kernel_rfl)
end ref12_Var
namespace ref12_of
noncomputable abbrev e (p : List Nat) := ev Sp (den Sp) id Tryz.f52.ntmps (cAt (bodyOf Tryz.f52) p)
noncomputable abbrev cn (n0 : List Nat) := canon Sp id n0
noncomputable abbrev K : K := kFin Sp (den Sp) Tryz.f52 0
theorem eq (a0 : Int) (a1_0 a2_0 : List (List V)) : den Sp id [(V.int .i64 a0), (V.agg [(V.sl .no T_api_Proc a1_0)]), (V.agg [(V.sl .no T_api_Proc a2_0)])] [] none =
    (bif (a0 == (1 : Int)) then (some ⟨(Out.ret (V.tup [(V.agg [(V.sl .no T_api_Proc a2_0)]), (V.bool true)])), [], none⟩) else (some ⟨(Out.ret (V.tup [(V.agg [(V.sl .no T_api_Proc a1_0)]), (V.bool (a0 == (0 : Int)))])), [], none⟩)) := (den_eq ..).trans (by kernel_rfl)
end ref12_of
namespace ref12_same
noncomputable abbrev e (p : List Nat) := ev Sp (den Sp) id Tryz.f51.ntmps (cAt (bodyOf Tryz.f51) p)
noncomputable abbrev cn (n0 : List Nat) := canon Sp id n0
noncomputable abbrev K : K := kFin Sp (den Sp) Tryz.f51 0
noncomputable def L1_1_1_0_1_0 (l0 : List (List V)) (b1 : Bool) (i2 : Int) (s3 s4 s5 s6 : ByteArray) (l7 l8 : List (List V)) : Option Res := LP (e [1, 1, 1, 0, 1, 0, 0]) (cn [1004, 1006, 1007]) (kBlk 0 (kSeq (e [1, 1, 1, 1]) (K))) ([(1, (V.sl .no T_api_Pair l0)), (4, (V.ref 1004 0)), (6, (V.ref 1006 0)), (7, (V.ref 1007 0)), (9, (V.bool b1)), (10, (V.int .i64 i2))], ⟨[(1004, (Blk.cells T_api_Pair [(V.str s3), (V.str s4), (V.str s5), (V.str s6)] false)), (1006, (Blk.cells T_api_Prog [(V.sl .no T_api_Proc l7)] false)), (1007, (Blk.cells T_api_Prog [(V.sl .no T_api_Proc l8)] false))], [], [], [], none⟩)
theorem L1_1_1_0_1_0_eq (l0 : List (List V)) (b1 : Bool) (i2 : Int) (s3 s4 s5 s6 : ByteArray) (l7 l8 : List (List V)) : L1_1_1_0_1_0 l0 b1 i2 s3 s4 s5 s6 l7 l8 =
    (bif (decide (i2 < (l0.length : Int))) then (bif b1 then (L1_1_1_0_1_0 l0 true (IntKind.wrap .i64 (i2 + (1 : Int))) s3 s4 s5 s6 l7 l8) else (if (((0 : Int) ≤ i2) ∧ (i2 < (l0.length : Int))) then (V.asStr (List.getD (List.getD l0 (Int.toNat i2) []) 0 V.undef) (fun s28 => (bif (decide (s28 = s3)) then (if (((0 : Int) ≤ i2) ∧ (i2 < (l0.length : Int))) then (V.asStr (List.getD (List.getD l0 (Int.toNat i2) []) 1 V.undef) (fun s29 => (L1_1_1_0_1_0 l0 (decide (s29 = s4)) (IntKind.wrap .i64 (i2 + (1 : Int))) s3 s4 s5 s6 l7 l8))) else none) else (L1_1_1_0_1_0 l0 false (IntKind.wrap .i64 (i2 + (1 : Int))) s3 s4 s5 s6 l7 l8)))) else none)) else (bif (!b1) then (some ⟨(Out.ret (V.int .i64 (90 : Int))), [], none⟩) else ((den Sp ref12_Var.id [(V.agg [(V.sl .no T_api_Proc l7)]), (V.str s3), (V.str s5)] [] none)).bind (fun r29 => (Res.onRet r29 (fun v30 => (V.asTup v30 2 (fun rd31 => (V.asAgg (rd31 0) 5 (fun rd32 => (V.asStr (rd32 0) (fun s33 => (V.asInt (rd32 1) .i64 (fun n34 => (V.asInt (rd32 2) .i64 (fun n35 => (V.asInt (rd32 3) .i64 (fun n36 => (V.asInt (rd32 4) .i64 (fun n37 => (V.asBool (rd31 1) (fun b38 => ((den Sp ref12_Var.id [(V.agg [(V.sl .no T_api_Proc l8)]), (V.str s4), (V.str s6)] [] none)).bind (fun r40 => (Res.onRet r40 (fun v41 => (V.asTup v41 2 (fun rd42 => (V.asAgg (rd42 0) 5 (fun rd43 => (V.asStr (rd43 0) (fun s44 => (V.asInt (rd43 1) .i64 (fun n45 => (V.asInt (rd43 2) .i64 (fun n46 => (V.asInt (rd43 3) .i64 (fun n47 => (V.asInt (rd43 4) .i64 (fun n48 => (V.asBool (rd42 1) (fun b49 => (bif (!b38) then (some ⟨(Out.ret (V.int .i64 (40 : Int))), [], none⟩) else (bif (!b49) then (some ⟨(Out.ret (V.int .i64 (40 : Int))), [], none⟩) else (bif (n34 != n45) then (some ⟨(Out.ret (V.int .i64 (41 : Int))), [], none⟩) else (bif (n35 != n46) then (some ⟨(Out.ret (V.int .i64 (41 : Int))), [], none⟩) else (some ⟨(Out.ret (V.int .i64 (0 : Int))), [], none⟩))))))))))))))))))))))))))))))))))))))))))))) := (LP_eq ..).trans (by kernel_rfl)
theorem eq (a0_0 a0_1 a0_2 a0_3 : ByteArray) (a1 a2_0 a3_0 : List (List V)) : den Sp id [(V.agg [(V.str a0_0), (V.str a0_1), (V.str a0_2), (V.str a0_3)]), (V.sl .no T_api_Pair a1), (V.agg [(V.sl .no T_api_Proc a2_0)]), (V.agg [(V.sl .no T_api_Proc a3_0)])] [] none =
    ((den Sp ref12_Proc.id [(V.agg [(V.sl .no T_api_Proc a2_0)]), (V.str a0_0)] [] none)).bind (fun r9 => (Res.onRet r9 (fun v10 => (V.asInt v10 .i64 (fun n11 => (bif (decide (n11 < (0 : Int))) then (some ⟨(Out.ret (V.int .i64 (40 : Int))), [], none⟩) else ((den Sp ref12_Proc.id [(V.agg [(V.sl .no T_api_Proc a3_0)]), (V.str a0_1)] [] none)).bind (fun r12 => (Res.onRet r12 (fun v13 => (V.asInt v13 .i64 (fun n14 => (bif (decide (n14 < (0 : Int))) then (some ⟨(Out.ret (V.int .i64 (40 : Int))), [], none⟩) else (L1_1_1_0_1_0 a1 false (0 : Int) a0_0 a0_1 a0_2 a0_3 a2_0 a3_0))))))))))))) := (den_eq ..).trans (by kernel_rfl)
end ref12_same
namespace ref12_pairs
noncomputable abbrev e (p : List Nat) := ev Sp (den Sp) id Tryz.f50.ntmps (cAt (bodyOf Tryz.f50) p)
noncomputable abbrev cn (n0 : List Nat) := canon Sp id n0
noncomputable abbrev K : K := kFin Sp (den Sp) Tryz.f50 0
noncomputable def L1_0_1_0 (l0 l1 l2 : List (List V)) : Option Res := LP (e [1, 0, 1, 0, 0]) (cn [1004, 1005]) (kBlk 0 (kSeq (e [1, 1]) (K))) ([(0, (V.sl .no T_api_Pair l0)), (4, (V.ref 1004 0)), (5, (V.ref 1005 0)), (8, (V.int .i64 (0 : Int))), (9, V.undef)], ⟨[(1004, (Blk.cells T_api_Prog [(V.sl .no T_api_Proc l1)] false)), (1005, (Blk.cells T_api_Prog [(V.sl .no T_api_Proc l2)] false))], [], [], [], none⟩)
noncomputable def L1_0_1_0_0_1_0_0_1_1_0 (l0 : List (List V)) (i1 i2 : Int) (l3 l4 : List (List V)) : Option Res := LP (e [1, 0, 1, 0, 0, 1, 0, 0, 1, 1, 0, 0]) (cn [1004, 1005]) (kBlk 2 (kBlk 1 (kSeq (e [1, 0, 1, 0, 0, 1, 1]) (kLp (e [1, 0, 1, 0, 0]) (cn [1004, 1005]) (kBlk 0 (kSeq (e [1, 1]) (K))))))) ([(0, (V.sl .no T_api_Pair l0)), (4, (V.ref 1004 0)), (5, (V.ref 1005 0)), (8, (V.int .i64 i1)), (9, (V.int .i64 i2))], ⟨[(1004, (Blk.cells T_api_Prog [(V.sl .no T_api_Proc l3)] false)), (1005, (Blk.cells T_api_Prog [(V.sl .no T_api_Proc l4)] false))], [], [], [], none⟩)
noncomputable def L1_0_1_0v1 (l0 : List (List V)) (i1 i2 : Int) (l3 l4 : List (List V)) : Option Res := LP (e [1, 0, 1, 0, 0]) (cn [1004, 1005]) (kBlk 0 (kSeq (e [1, 1]) (K))) ([(0, (V.sl .no T_api_Pair l0)), (4, (V.ref 1004 0)), (5, (V.ref 1005 0)), (8, (V.int .i64 i1)), (9, (V.int .i64 i2))], ⟨[(1004, (Blk.cells T_api_Prog [(V.sl .no T_api_Proc l3)] false)), (1005, (Blk.cells T_api_Prog [(V.sl .no T_api_Proc l4)] false))], [], [], [], none⟩)
theorem L1_0_1_0_eq (l0 l1 l2 : List (List V)) : L1_0_1_0 l0 l1 l2 =
    (bif (decide ((0 : Int) < (l0.length : Int))) then (if (((0 : Int) ≤ (0 : Int)) ∧ ((0 : Int) < (l0.length : Int))) then (V.asStr (List.getD (List.getD l0 0 []) 0 V.undef) (fun s10 => ((den Sp ref12_Proc.id [(V.agg [(V.sl .no T_api_Proc l1)]), (V.str s10)] [] none)).bind (fun r11 => (Res.onRet r11 (fun v12 => (V.asInt v12 .i64 (fun n13 => (bif (decide (n13 < (0 : Int))) then (some ⟨(Out.ret (V.tup [(V.int .i64 (0 : Int)), (V.int .i64 (40 : Int))])), [], none⟩) else (if (((0 : Int) ≤ (0 : Int)) ∧ ((0 : Int) < (l0.length : Int))) then (V.asStr (List.getD (List.getD l0 0 []) 1 V.undef) (fun s14 => ((den Sp ref12_Proc.id [(V.agg [(V.sl .no T_api_Proc l2)]), (V.str s14)] [] none)).bind (fun r15 => (Res.onRet r15 (fun v16 => (V.asInt v16 .i64 (fun n17 => (bif (decide (n17 < (0 : Int))) then (some ⟨(Out.ret (V.tup [(V.int .i64 (0 : Int)), (V.int .i64 (40 : Int))])), [], none⟩) else (L1_0_1_0_0_1_0_0_1_1_0 l0 (0 : Int) (0 : Int) l1 l2))))))))) else none))))))))) else none) else (some ⟨(Out.ret (V.tup [(V.int .i64 (0 : Int)), (V.int .i64 (0 : Int))])), [], none⟩)) := (LP_eq ..).trans (by kernel_rfl)
theorem L1_0_1_0_0_1_0_0_1_1_0_eq (l0 : List (List V)) (i1 i2 : Int) (l3 l4 : List (List V)) : L1_0_1_0_0_1_0_0_1_1_0 l0 i1 i2 l3 l4 =
    (bif (decide (i2 < i1)) then (if (((0 : Int) ≤ i2) ∧ (i2 < (l0.length : Int))) then (V.asStr (List.getD (List.getD l0 (Int.toNat i2) []) 0 V.undef) (fun s26 => (if (((0 : Int) ≤ i1) ∧ (i1 < (l0.length : Int))) then (V.asStr (List.getD (List.getD l0 (Int.toNat i1) []) 0 V.undef) (fun s27 => (bif (decide (s26 = s27)) then (some ⟨(Out.ret (V.tup [(V.int .i64 i1), (V.int .i64 (90 : Int))])), [], none⟩) else (if (((0 : Int) ≤ i2) ∧ (i2 < (l0.length : Int))) then (V.asStr (List.getD (List.getD l0 (Int.toNat i2) []) 1 V.undef) (fun s28 => (if (((0 : Int) ≤ i1) ∧ (i1 < (l0.length : Int))) then (V.asStr (List.getD (List.getD l0 (Int.toNat i1) []) 1 V.undef) (fun s29 => (bif (decide (s28 = s29)) then (some ⟨(Out.ret (V.tup [(V.int .i64 i1), (V.int .i64 (90 : Int))])), [], none⟩) else (L1_0_1_0_0_1_0_0_1_1_0 l0 i1 (IntKind.wrap .i64 (i2 + (1 : Int))) l3 l4)))) else none))) else none)))) else none))) else none) else (L1_0_1_0v1 l0 (IntKind.wrap .i64 (i1 + (1 : Int))) i2 l3 l4)) := (LP_eq ..).trans (by kernel_rfl)
theorem L1_0_1_0v1_eq (l0 : List (List V)) (i1 i2 : Int) (l3 l4 : List (List V)) : L1_0_1_0v1 l0 i1 i2 l3 l4 =
    (bif (decide (i1 < (l0.length : Int))) then (if (((0 : Int) ≤ i1) ∧ (i1 < (l0.length : Int))) then (V.asStr (List.getD (List.getD l0 (Int.toNat i1) []) 0 V.undef) (fun s33 => ((den Sp ref12_Proc.id [(V.agg [(V.sl .no T_api_Proc l3)]), (V.str s33)] [] none)).bind (fun r34 => (Res.onRet r34 (fun v35 => (V.asInt v35 .i64 (fun n36 => (bif (decide (n36 < (0 : Int))) then (some ⟨(Out.ret (V.tup [(V.int .i64 i1), (V.int .i64 (40 : Int))])), [], none⟩) else (if (((0 : Int) ≤ i1) ∧ (i1 < (l0.length : Int))) then (V.asStr (List.getD (List.getD l0 (Int.toNat i1) []) 1 V.undef) (fun s37 => ((den Sp ref12_Proc.id [(V.agg [(V.sl .no T_api_Proc l4)]), (V.str s37)] [] none)).bind (fun r38 => (Res.onRet r38 (fun v39 => (V.asInt v39 .i64 (fun n40 => (bif (decide (n40 < (0 : Int))) then (some ⟨(Out.ret (V.tup [(V.int .i64 i1), (V.int .i64 (40 : Int))])), [], none⟩) else (L1_0_1_0_0_1_0_0_1_1_0 l0 i1 (0 : Int) l3 l4))))))))) else none))))))))) else none) else (some ⟨(Out.ret (V.tup [(V.int .i64 (0 : Int)), (V.int .i64 (0 : Int))])), [], none⟩)) := (LP_eq ..).trans (by kernel_rfl)
theorem eq (a0 a1_0 a2_0 : List (List V)) : den Sp id [(V.sl .no T_api_Pair a0), (V.agg [(V.sl .no T_api_Proc a1_0)]), (V.agg [(V.sl .no T_api_Proc a2_0)])] [] none =
    (L1_0_1_0 a0 a1_0 a2_0) := (den_eq ..).trans (by kernel_rfl)
end ref12_pairs
namespace ref12_stop
noncomputable abbrev e (p : List Nat) := ev Sp (den Sp) id Tryz.f54.ntmps (cAt (bodyOf Tryz.f54) p)
noncomputable abbrev cn (n0 : List Nat) := canon Sp id n0
noncomputable abbrev K : K := kFin Sp (den Sp) Tryz.f54 0
noncomputable def L1_1_1_1_1_0_1_0 (i0 i1 i2 : Int) (s3 : ByteArray) (i4 : Int) (l5 l6 l7 l8 : List (List V)) : Option Res := LP (e [1, 1, 1, 1, 1, 0, 1, 0, 0]) (cn [1003, 1004, 1005, 1007]) (kBlk 0 (kSeq (e [1, 1, 1, 1, 1, 1]) (K))) ([(3, (V.ref 1003 0)), (7, (V.ref 1007 0)), (9, (V.int .i64 i0)), (10, (V.int .i64 i1))], ⟨[(1003, (Blk.cells T_parallaxref12_Break [(V.int .i64 i2), (V.str s3), (V.int .i64 i4), (V.sl .no T_api_Expr l5)] false)), (1004, (Blk.cells T_api_Prog [(V.sl .no T_api_Proc l6)] false)), (1005, (Blk.cells T_api_Prog [(V.sl .no T_api_Proc l7)] false)), (1007, (Blk.cells T_api_Prog [(V.sl .no T_api_Proc l8)] false))], [], [], [], none⟩)
theorem L1_1_1_1_1_0_1_0_eq (i0 i1 i2 : Int) (s3 : ByteArray) (i4 : Int) (l5 l6 l7 l8 : List (List V)) : L1_1_1_1_1_0_1_0 i0 i1 i2 s3 i4 l5 l6 l7 l8 =
    (bif (decide (i1 < (l5.length : Int))) then (if (((0 : Int) ≤ i1) ∧ (i1 < (l5.length : Int))) then (V.asInt (List.getD (List.getD l5 (Int.toNat i1) []) 0 V.undef) .i64 (fun n39 => (V.asStr (List.getD (List.getD l5 (Int.toNat i1) []) 1 V.undef) (fun s40 => (V.asInt (List.getD (List.getD l5 (Int.toNat i1) []) 2 V.undef) .i64 (fun n41 => (V.asSl (List.getD (List.getD l5 (Int.toNat i1) []) 3 V.undef) T_api_Expr (fun es42 => (if (((0 : Int) ≤ i0) ∧ (i0 < (l8.length : Int))) then (V.asStr (List.getD (List.getD l8 (Int.toNat i0) []) 0 V.undef) (fun s43 => (V.asSl (List.getD (List.getD l8 (Int.toNat i0) []) 1 V.undef) T_api_Param (fun es44 => (V.asInt (List.getD (List.getD l8 (Int.toNat i0) []) 2 V.undef) .i64 (fun n45 => (V.asSl (List.getD (List.getD l8 (Int.toNat i0) []) 3 V.undef) T_api_Stmt (fun es46 => ((den Sp ref04_Vars.id [(V.agg [(V.str s43), (V.sl .no T_api_Param es44), (V.int .i64 n45), (V.sl .no T_api_Stmt es46)])] [] none)).bind (fun r47 => (Res.onRet r47 (fun v48 => (V.asSl v48 T_api_Var (fun es49 => ((den Sp ref04_TypeOf.id [(V.agg [(V.int .i64 n39), (V.str s40), (V.int .i64 n41), (V.sl .no T_api_Expr es42)]), (V.sl .no T_api_Var es49), (V.int .i64 i4)] [] none)).bind (fun r50 => (Res.onRet r50 (fun v51 => (V.asTup v51 2 (fun rd52 => (V.asInt (rd52 0) .i64 (fun n53 => (V.asInt (rd52 1) .i64 (fun n54 => (bif (n54 != (0 : Int)) then (some ⟨(Out.ret (V.int .i64 n54)), [], none⟩) else (bif (n53 != (2 : Int)) then (some ⟨(Out.ret (V.int .i64 (41 : Int))), [], none⟩) else (L1_1_1_1_1_0_1_0 i0 (IntKind.wrap .i64 (i1 + (1 : Int))) i2 s3 i4 l5 l6 l7 l8))))))))))))))))))))))))) else none))))))))) else none) else (some ⟨(Out.ret (V.int .i64 (0 : Int))), [], none⟩)) := (LP_eq ..).trans (by kernel_rfl)
theorem eq (a0_0 : Int) (a0_1 : ByteArray) (a0_2 : Int) (a0_3 a1_0 a2_0 : List (List V)) : den Sp id [(V.agg [(V.int .i64 a0_0), (V.str a0_1), (V.int .i64 a0_2), (V.sl .no T_api_Expr a0_3)]), (V.agg [(V.sl .no T_api_Proc a1_0)]), (V.agg [(V.sl .no T_api_Proc a2_0)])] [] none =
    ((den Sp ref12_of.id [(V.int .i64 a0_0), (V.agg [(V.sl .no T_api_Proc a1_0)]), (V.agg [(V.sl .no T_api_Proc a2_0)])] [] none)).bind (fun r8 => (Res.onRet r8 (fun v9 => (V.asTup v9 2 (fun rd10 => (V.asAgg (rd10 0) 1 (fun rd11 => (V.asSl (rd11 0) T_api_Proc (fun es12 => (V.asBool (rd10 1) (fun b13 => ((den Sp ref12_Proc.id [(V.agg [(V.sl .no T_api_Proc es12)]), (V.str a0_1)] [] none)).bind (fun r15 => (Res.onRet r15 (fun v16 => (V.asInt v16 .i64 (fun n17 => (bif (!b13) then (some ⟨(Out.ret (V.int .i64 (40 : Int))), [], none⟩) else (bif (decide (n17 < (0 : Int))) then (some ⟨(Out.ret (V.int .i64 (40 : Int))), [], none⟩) else (bif (decide (a0_2 < (0 : Int))) then (some ⟨(Out.ret (V.int .i64 (80 : Int))), [], none⟩) else (if (((0 : Int) ≤ n17) ∧ (n17 < (es12.length : Int))) then (V.asStr (List.getD (List.getD es12 (Int.toNat n17) []) 0 V.undef) (fun s20 => (V.asSl (List.getD (List.getD es12 (Int.toNat n17) []) 1 V.undef) T_api_Param (fun es21 => (V.asInt (List.getD (List.getD es12 (Int.toNat n17) []) 2 V.undef) .i64 (fun n22 => (V.asSl (List.getD (List.getD es12 (Int.toNat n17) []) 3 V.undef) T_api_Stmt (fun es23 => ((den Sp ref04_Count.id [(V.agg [(V.str s20), (V.sl .no T_api_Param es21), (V.int .i64 n22), (V.sl .no T_api_Stmt es23)])] [] none)).bind (fun r24 => (Res.onRet r24 (fun v25 => (V.asInt v25 .i64 (fun n26 => (bif (decide ((IntKind.wrap .i64 (a0_2 - (1 : Int))) > n26)) then (some ⟨(Out.ret (V.int .i64 (80 : Int))), [], none⟩) else (L1_1_1_1_1_0_1_0 n17 (0 : Int) a0_0 a0_1 a0_2 a0_3 a1_0 a2_0 es12))))))))))))))) else none)))))))))))))))))))) := (den_eq ..).trans (by kernel_rfl)
end ref12_stop
namespace ref12_Check
noncomputable abbrev e (p : List Nat) := ev Sp (den Sp) id Tryz.f23.ntmps (cAt (bodyOf Tryz.f23) p)
noncomputable abbrev cn (n0 : List Nat) := canon Sp id n0
noncomputable abbrev K : K := kFin Sp (den Sp) Tryz.f23 0
noncomputable def L1_1_1_1_1_1_1_0_1_0 (i0 : Int) (l1 l2 l3 l4 l5 l6 l7 l8 l9 : List (List V)) (i10 i11 : Int) : Option Res := LP (e [1, 1, 1, 1, 1, 1, 1, 0, 1, 0, 0]) (cn [1003, 1004, 1005, 1006, 1008, 1009]) (kBlk 0 (kSeq (e [1, 1, 1, 1, 1, 1, 1, 1]) (K))) ([(3, (V.ref 1003 0)), (4, (V.ref 1004 0)), (5, (V.ref 1005 0)), (6, (V.ref 1006 0)), (12, (V.int .i64 i0)), (14, V.undef), (19, V.undef), (21, V.undef)], ⟨[(1003, (Blk.cells T_parallaxref12_File [(V.sl .no T_api_Pair l1), (V.sl .no T_api_Pair l2), (V.sl .no T_parallaxref12_Keep l3), (V.sl .no T_parallaxref12_Break l4), (V.sl .no T_parallaxref12_Watch l5)] false)), (1004, (Blk.cells T_api_Prog [(V.sl .no T_api_Proc l6)] false)), (1005, (Blk.cells T_api_Prog [(V.sl .no T_api_Proc l7)] false)), (1006, (Blk.cells T_parallaxref12_Spot [(V.int .i64 (0 : Int)), (V.int .i64 (0 : Int))] false)), (1008, (Blk.cells T_parallaxref04_Info [(V.sl .no T_L_api_Var l8), (V.sl .no T_int l9)] false)), (1009, (Blk.cells T_parallaxref04_Place [(V.int .i64 i10), (V.int .i64 i11)] false))], [], [], [], none⟩)
noncomputable def L1_1_1_1_1_1_1_1_0_1_0 (i0 i1 : Int) (l2 l3 l4 l5 l6 l7 l8 l9 l10 : List (List V)) (i11 i12 : Int) : Option Res := LP (e [1, 1, 1, 1, 1, 1, 1, 1, 0, 1, 0, 0]) (cn [1003, 1004, 1005, 1006, 1008, 1009]) (kBlk 2 (kSeq (e [1, 1, 1, 1, 1, 1, 1, 1, 1]) (K))) ([(3, (V.ref 1003 0)), (4, (V.ref 1004 0)), (5, (V.ref 1005 0)), (6, (V.ref 1006 0)), (12, (V.int .i64 i0)), (14, (V.int .i64 i1)), (19, V.undef), (21, V.undef)], ⟨[(1003, (Blk.cells T_parallaxref12_File [(V.sl .no T_api_Pair l2), (V.sl .no T_api_Pair l3), (V.sl .no T_parallaxref12_Keep l4), (V.sl .no T_parallaxref12_Break l5), (V.sl .no T_parallaxref12_Watch l6)] false)), (1004, (Blk.cells T_api_Prog [(V.sl .no T_api_Proc l7)] false)), (1005, (Blk.cells T_api_Prog [(V.sl .no T_api_Proc l8)] false)), (1006, (Blk.cells T_parallaxref12_Spot [(V.int .i64 (0 : Int)), (V.int .i64 (0 : Int))] false)), (1008, (Blk.cells T_parallaxref04_Info [(V.sl .no T_L_api_Var l9), (V.sl .no T_int l10)] false)), (1009, (Blk.cells T_parallaxref04_Place [(V.int .i64 i11), (V.int .i64 i12)] false))], [], [], [], none⟩)
noncomputable def L1_1_1_1_1_1_1_1_1_0_1_0 (i0 i1 i2 : Int) (l3 l4 l5 l6 l7 l8 l9 l10 l11 : List (List V)) (i12 i13 : Int) : Option Res := LP (e [1, 1, 1, 1, 1, 1, 1, 1, 1, 0, 1, 0, 0]) (cn [1003, 1004, 1005, 1006, 1008, 1009]) (kBlk 4 (kSeq (e [1, 1, 1, 1, 1, 1, 1, 1, 1, 1]) (K))) ([(3, (V.ref 1003 0)), (4, (V.ref 1004 0)), (5, (V.ref 1005 0)), (6, (V.ref 1006 0)), (12, (V.int .i64 i0)), (14, (V.int .i64 i1)), (19, (V.int .i64 i2)), (21, V.undef)], ⟨[(1003, (Blk.cells T_parallaxref12_File [(V.sl .no T_api_Pair l3), (V.sl .no T_api_Pair l4), (V.sl .no T_parallaxref12_Keep l5), (V.sl .no T_parallaxref12_Break l6), (V.sl .no T_parallaxref12_Watch l7)] false)), (1004, (Blk.cells T_api_Prog [(V.sl .no T_api_Proc l8)] false)), (1005, (Blk.cells T_api_Prog [(V.sl .no T_api_Proc l9)] false)), (1006, (Blk.cells T_parallaxref12_Spot [(V.int .i64 (0 : Int)), (V.int .i64 (0 : Int))] false)), (1008, (Blk.cells T_parallaxref04_Info [(V.sl .no T_L_api_Var l10), (V.sl .no T_int l11)] false)), (1009, (Blk.cells T_parallaxref04_Place [(V.int .i64 i12), (V.int .i64 i13)] false))], [], [], [], none⟩)
noncomputable def L1_1_1_1_1_1_1_1_1_1_0_1_0 (i0 i1 i2 i3 : Int) (l4 l5 l6 l7 l8 l9 l10 l11 l12 : List (List V)) (i13 i14 : Int) : Option Res := LP (e [1, 1, 1, 1, 1, 1, 1, 1, 1, 1, 0, 1, 0, 0]) (cn [1003, 1004, 1005, 1006, 1008, 1009]) (kBlk 6 (kSeq (e [1, 1, 1, 1, 1, 1, 1, 1, 1, 1, 1]) (K))) ([(3, (V.ref 1003 0)), (4, (V.ref 1004 0)), (5, (V.ref 1005 0)), (6, (V.ref 1006 0)), (12, (V.int .i64 i0)), (14, (V.int .i64 i1)), (19, (V.int .i64 i2)), (21, (V.int .i64 i3))], ⟨[(1003, (Blk.cells T_parallaxref12_File [(V.sl .no T_api_Pair l4), (V.sl .no T_api_Pair l5), (V.sl .no T_parallaxref12_Keep l6), (V.sl .no T_parallaxref12_Break l7), (V.sl .no T_parallaxref12_Watch l8)] false)), (1004, (Blk.cells T_api_Prog [(V.sl .no T_api_Proc l9)] false)), (1005, (Blk.cells T_api_Prog [(V.sl .no T_api_Proc l10)] false)), (1006, (Blk.cells T_parallaxref12_Spot [(V.int .i64 (0 : Int)), (V.int .i64 (0 : Int))] false)), (1008, (Blk.cells T_parallaxref04_Info [(V.sl .no T_L_api_Var l11), (V.sl .no T_int l12)] false)), (1009, (Blk.cells T_parallaxref04_Place [(V.int .i64 i13), (V.int .i64 i14)] false))], [], [], [], none⟩)
theorem L1_1_1_1_1_1_1_0_1_0_eq (i0 : Int) (l1 l2 l3 l4 l5 l6 l7 l8 l9 : List (List V)) (i10 i11 : Int) : L1_1_1_1_1_1_1_0_1_0 i0 l1 l2 l3 l4 l5 l6 l7 l8 l9 i10 i11 =
    (bif (decide (i0 < (l2.length : Int))) then (if (((0 : Int) ≤ i0) ∧ (i0 < (l2.length : Int))) then (V.asStr (List.getD (List.getD l2 (Int.toNat i0) []) 0 V.undef) (fun s54 => (V.asStr (List.getD (List.getD l2 (Int.toNat i0) []) 1 V.undef) (fun s55 => (V.asStr (List.getD (List.getD l2 (Int.toNat i0) []) 2 V.undef) (fun s56 => (V.asStr (List.getD (List.getD l2 (Int.toNat i0) []) 3 V.undef) (fun s57 => ((den Sp ref12_same.id [(V.agg [(V.str s54), (V.str s55), (V.str s56), (V.str s57)]), (V.sl .no T_api_Pair l1), (V.agg [(V.sl .no T_api_Proc l6)]), (V.agg [(V.sl .no T_api_Proc l7)])] [] none)).bind (fun r58 => (Res.onRet r58 (fun v59 => (V.asInt v59 .i64 (fun n60 => (bif (n60 != (0 : Int)) then (some ⟨(Out.ret (V.tup [(V.agg [(V.int .i64 (2 : Int)), (V.int .i64 i0)]), (V.int .i64 n60)])), [], none⟩) else (L1_1_1_1_1_1_1_0_1_0 (IntKind.wrap .i64 (i0 + (1 : Int))) l1 l2 l3 l4 l5 l6 l7 l8 l9 i10 i11))))))))))))))) else none) else (L1_1_1_1_1_1_1_1_0_1_0 i0 (0 : Int) l1 l2 l3 l4 l5 l6 l7 l8 l9 i10 i11)) := (LP_eq ..).trans (by kernel_rfl)
theorem L1_1_1_1_1_1_1_1_0_1_0_eq (i0 i1 : Int) (l2 l3 l4 l5 l6 l7 l8 l9 l10 : List (List V)) (i11 i12 : Int) : L1_1_1_1_1_1_1_1_0_1_0 i0 i1 l2 l3 l4 l5 l6 l7 l8 l9 l10 i11 i12 =
    (bif (decide (i1 < (l4.length : Int))) then (if (((0 : Int) ≤ i1) ∧ (i1 < (l4.length : Int))) then (V.asInt (List.getD (List.getD l4 (Int.toNat i1) []) 0 V.undef) .i64 (fun n69 => ((den Sp ref12_of.id [(V.int .i64 n69), (V.agg [(V.sl .no T_api_Proc l7)]), (V.agg [(V.sl .no T_api_Proc l8)])] [] none)).bind (fun r70 => (Res.onRet r70 (fun v71 => (V.asTup v71 2 (fun rd72 => (V.asAgg (rd72 0) 1 (fun rd73 => (V.asSl (rd73 0) T_api_Proc (fun es74 => (V.asBool (rd72 1) (fun b75 => (if (((0 : Int) ≤ i1) ∧ (i1 < (l4.length : Int))) then (V.asStr (List.getD (List.getD l4 (Int.toNat i1) []) 1 V.undef) (fun s77 => (if (((0 : Int) ≤ i1) ∧ (i1 < (l4.length : Int))) then (V.asStr (List.getD (List.getD l4 (Int.toNat i1) []) 2 V.undef) (fun s78 => ((den Sp ref12_Var.id [(V.agg [(V.sl .no T_api_Proc es74)]), (V.str s77), (V.str s78)] [] none)).bind (fun r79 => (Res.onRet r79 (fun v80 => (V.asTup v80 2 (fun rd81 => (V.asAgg (rd81 0) 5 (fun rd82 => (V.asStr (rd82 0) (fun s83 => (V.asInt (rd82 1) .i64 (fun n84 => (V.asInt (rd82 2) .i64 (fun n85 => (V.asInt (rd82 3) .i64 (fun n86 => (V.asInt (rd82 4) .i64 (fun n87 => (V.asBool (rd81 1) (fun b88 => (bif (!b75) then (some ⟨(Out.ret (V.tup [(V.agg [(V.int .i64 (3 : Int)), (V.int .i64 i1)]), (V.int .i64 (40 : Int))])), [], none⟩) else (bif (!b88) then (some ⟨(Out.ret (V.tup [(V.agg [(V.int .i64 (3 : Int)), (V.int .i64 i1)]), (V.int .i64 (40 : Int))])), [], none⟩) else (L1_1_1_1_1_1_1_1_0_1_0 i0 (IntKind.wrap .i64 (i1 + (1 : Int))) l2 l3 l4 l5 l6 l7 l8 l9 l10 i11 i12)))))))))))))))))))))))) else none))) else none)))))))))))))) else none) else (L1_1_1_1_1_1_1_1_1_0_1_0 i0 i1 (0 : Int) l2 l3 l4 l5 l6 l7 l8 l9 l10 i11 i12)) := (LP_eq ..).trans (by kernel_rfl)
theorem L1_1_1_1_1_1_1_1_1_0_1_0_eq (i0 i1 i2 : Int) (l3 l4 l5 l6 l7 l8 l9 l10 l11 : List (List V)) (i12 i13 : Int) : L1_1_1_1_1_1_1_1_1_0_1_0 i0 i1 i2 l3 l4 l5 l6 l7 l8 l9 l10 l11 i12 i13 =
    (bif (decide (i2 < (l6.length : Int))) then (if (((0 : Int) ≤ i2) ∧ (i2 < (l6.length : Int))) then (V.asInt (List.getD (List.getD l6 (Int.toNat i2) []) 0 V.undef) .i64 (fun n85 => (V.asStr (List.getD (List.getD l6 (Int.toNat i2) []) 1 V.undef) (fun s86 => (V.asInt (List.getD (List.getD l6 (Int.toNat i2) []) 2 V.undef) .i64 (fun n87 => (V.asSl (List.getD (List.getD l6 (Int.toNat i2) []) 3 V.undef) T_api_Expr (fun es88 => ((den Sp ref12_stop.id [(V.agg [(V.int .i64 n85), (V.str s86), (V.int .i64 n87), (V.sl .no T_api_Expr es88)]), (V.agg [(V.sl .no T_api_Proc l8)]), (V.agg [(V.sl .no T_api_Proc l9)])] [] none)).bind (fun r89 => (Res.onRet r89 (fun v90 => (V.asInt v90 .i64 (fun n91 => (bif (n91 != (0 : Int)) then (some ⟨(Out.ret (V.tup [(V.agg [(V.int .i64 (4 : Int)), (V.int .i64 i2)]), (V.int .i64 n91)])), [], none⟩) else (L1_1_1_1_1_1_1_1_1_0_1_0 i0 i1 (IntKind.wrap .i64 (i2 + (1 : Int))) l3 l4 l5 l6 l7 l8 l9 l10 l11 i12 i13))))))))))))))) else none) else (L1_1_1_1_1_1_1_1_1_1_0_1_0 i0 i1 i2 (0 : Int) l3 l4 l5 l6 l7 l8 l9 l10 l11 i12 i13)) := (LP_eq ..).trans (by kernel_rfl)
theorem L1_1_1_1_1_1_1_1_1_1_0_1_0_eq (i0 i1 i2 i3 : Int) (l4 l5 l6 l7 l8 l9 l10 l11 l12 : List (List V)) (i13 i14 : Int) : L1_1_1_1_1_1_1_1_1_1_0_1_0 i0 i1 i2 i3 l4 l5 l6 l7 l8 l9 l10 l11 l12 i13 i14 =
    (bif (decide (i3 < (l8.length : Int))) then (if (((0 : Int) ≤ i3) ∧ (i3 < (l8.length : Int))) then (V.asInt (List.getD (List.getD l8 (Int.toNat i3) []) 0 V.undef) .i64 (fun n102 => ((den Sp ref12_of.id [(V.int .i64 n102), (V.agg [(V.sl .no T_api_Proc l9)]), (V.agg [(V.sl .no T_api_Proc l10)])] [] none)).bind (fun r103 => (Res.onRet r103 (fun v104 => (V.asTup v104 2 (fun rd105 => (V.asAgg (rd105 0) 1 (fun rd106 => (V.asSl (rd106 0) T_api_Proc (fun es107 => (V.asBool (rd105 1) (fun b108 => (if (((0 : Int) ≤ i3) ∧ (i3 < (l8.length : Int))) then (V.asStr (List.getD (List.getD l8 (Int.toNat i3) []) 1 V.undef) (fun s110 => (if (((0 : Int) ≤ i3) ∧ (i3 < (l8.length : Int))) then (V.asStr (List.getD (List.getD l8 (Int.toNat i3) []) 2 V.undef) (fun s111 => ((den Sp ref12_Var.id [(V.agg [(V.sl .no T_api_Proc es107)]), (V.str s110), (V.str s111)] [] none)).bind (fun r112 => (Res.onRet r112 (fun v113 => (V.asTup v113 2 (fun rd114 => (V.asAgg (rd114 0) 5 (fun rd115 => (V.asStr (rd115 0) (fun s116 => (V.asInt (rd115 1) .i64 (fun n117 => (V.asInt (rd115 2) .i64 (fun n118 => (V.asInt (rd115 3) .i64 (fun n119 => (V.asInt (rd115 4) .i64 (fun n120 => (V.asBool (rd114 1) (fun b121 => (bif (!b108) then (some ⟨(Out.ret (V.tup [(V.agg [(V.int .i64 (5 : Int)), (V.int .i64 i3)]), (V.int .i64 (40 : Int))])), [], none⟩) else (bif (!b121) then (some ⟨(Out.ret (V.tup [(V.agg [(V.int .i64 (5 : Int)), (V.int .i64 i3)]), (V.int .i64 (40 : Int))])), [], none⟩) else (bif (decide (n118 > (0 : Int))) then (some ⟨(Out.ret (V.tup [(V.agg [(V.int .i64 (5 : Int)), (V.int .i64 i3)]), (V.int .i64 (41 : Int))])), [], none⟩) else (L1_1_1_1_1_1_1_1_1_1_0_1_0 i0 i1 i2 (IntKind.wrap .i64 (i3 + (1 : Int))) l4 l5 l6 l7 l8 l9 l10 l11 l12 i13 i14))))))))))))))))))))))))) else none))) else none)))))))))))))) else none) else (some ⟨(Out.ret (V.tup [(V.agg [(V.int .i64 (0 : Int)), (V.int .i64 (0 : Int))]), (V.int .i64 (0 : Int))])), [], none⟩)) := (LP_eq ..).trans (by kernel_rfl)
theorem eq (a0_0 a0_1 a0_2 a0_3 a0_4 a1_0 a2_0 : List (List V)) : den Sp id [(V.agg [(V.sl .no T_api_Pair a0_0), (V.sl .no T_api_Pair a0_1), (V.sl .no T_parallaxref12_Keep a0_2), (V.sl .no T_parallaxref12_Break a0_3), (V.sl .no T_parallaxref12_Watch a0_4)]), (V.agg [(V.sl .no T_api_Proc a1_0)]), (V.agg [(V.sl .no T_api_Proc a2_0)])] [] none =
    ((den Sp ref04_Check.id [(V.agg [(V.sl .no T_api_Proc a1_0)])] [] none)).bind (fun r9 => (Res.onRet r9 (fun v10 => (V.asTup v10 3 (fun rd11 => (V.asAgg (rd11 0) 2 (fun rd12 => (V.asSl (rd12 0) T_L_api_Var (fun es13 => (V.asSl (rd12 1) T_int (fun es14 => (V.asAgg (rd11 1) 2 (fun rd15 => (V.asInt (rd15 0) .i64 (fun n16 => (V.asInt (rd15 1) .i64 (fun n17 => (V.asInt (rd11 2) .i64 (fun n18 => (bif (n18 != (0 : Int)) then (some ⟨(Out.ret (V.tup [(V.agg [(V.int .i64 (6 : Int)), (V.int .i64 n16)]), (V.int .i64 n18)])), [], none⟩) else ((den Sp ref04_Check.id [(V.agg [(V.sl .no T_api_Proc a2_0)])] [] none)).bind (fun r21 => (Res.onRet r21 (fun v22 => (V.asTup v22 3 (fun rd23 => (V.asAgg (rd23 0) 2 (fun rd24 => (V.asSl (rd24 0) T_L_api_Var (fun es25 => (V.asSl (rd24 1) T_int (fun es26 => (V.asAgg (rd23 1) 2 (fun rd27 => (V.asInt (rd27 0) .i64 (fun n28 => (V.asInt (rd27 1) .i64 (fun n29 => (V.asInt (rd23 2) .i64 (fun n30 => (bif (n30 != (0 : Int)) then (some ⟨(Out.ret (V.tup [(V.agg [(V.int .i64 (7 : Int)), (V.int .i64 n28)]), (V.int .i64 n30)])), [], none⟩) else ((den Sp ref12_pairs.id [(V.sl .no T_api_Pair a0_0), (V.agg [(V.sl .no T_api_Proc a1_0)]), (V.agg [(V.sl .no T_api_Proc a2_0)])] [] none)).bind (fun r33 => (Res.onRet r33 (fun v34 => (V.asTup v34 2 (fun rd35 => (V.asInt (rd35 0) .i64 (fun n36 => (V.asInt (rd35 1) .i64 (fun n37 => (bif (n37 != (0 : Int)) then (some ⟨(Out.ret (V.tup [(V.agg [(V.int .i64 (1 : Int)), (V.int .i64 n36)]), (V.int .i64 n37)])), [], none⟩) else (L1_1_1_1_1_1_1_0_1_0 (0 : Int) a0_0 a0_1 a0_2 a0_3 a0_4 a1_0 a2_0 es13 es14 n28 n29))))))))))))))))))))))))))))))))))))))))))))))))))) := (den_eq ..).trans (by kernel_rfl)
end ref12_Check
end Go.Proofs.YtmhnmelaodhemaaGreatDoor
namespace Go.Proofs.YtmhnmelaodhemaaGreatDoor
open Go Go.Proofs.Ab Go.Proofs.Px
set_option linter.unusedVariables false
set_option linter.unusedSimpArgs false
set_option maxRecDepth 100000
structure Smalls (ps : List Prc) : Prop where
  len : ps.length ≤ 1000000
  proc : ∀ q ∈ ps, q.params.length ≤ 1000000 ∧ Stm.counts q.body ≤ 1000000
theorem Smalls.of {ps : List Prc} (hs : Prc.sizes ps ≤ 1000000) : Smalls ps := by
  have hlen := Prc.sizes_len ps
  refine ⟨by omega, fun q h => ?_⟩
  have h1 := Prc.size_mem h
  have h2 := Stm.counts_sizes q.body
  unfold Prc.size at h1
  omega
theorem varsP_len (q : Prc) (hp : q.params.length ≤ 1000000) (hc : Stm.counts q.body ≤ 1000000) : (varsP q).length ≤ 3000000 := by
  have := declP_len q.body 1
  unfold varsP
  rw [List.length_append, parVars_len]; omega
theorem ref12_Proc_is (ps : List Prc) (hps : ps.length ≤ 1000000) (n : List UInt8) : den Sp ref12_Proc.id [.agg [.sl .no T_api_Proc (ps.map Prc.v)], .str (B n)] [] none = some ⟨.ret (.int .i64 (procI n ps 0)), [], none⟩ := by
  have key : ∀ i : Nat, i ≤ ps.length → ref12_Proc.L1_0_1_0 (B n) (i : Int) (ps.map Prc.v) = some ⟨.ret (.int .i64 (procI n (ps.drop i) (i : Int))), [], none⟩ := by
    refine down ?_ fun i hi ih => ?_
    · rw [ref12_Proc.L1_0_1_0_eq]; simp [procI]
    · simp only [Int.natCast_add, Int.natCast_one] at ih
      rw [ref12_Proc.L1_0_1_0_eq, List.drop_eq_getElem_cons hi, procI]
      by_cases c : ps[i].name = n <;> simp (disch := omega) [hi, wrap_in, c, ih]
  rw [ref12_Proc.eq]
  simpa using key 0 (Nat.zero_le _)
def varA (o : Option Vr) : V := .tup [.agg ((o.getD ⟨[], 0, 0, 0, 0⟩).v), .bool o.isSome]
theorem ref12_Var_is (ps : List Prc) (hs : Smalls ps) (p v : List UInt8) : den Sp ref12_Var.id [.agg [.sl .no T_api_Proc (ps.map Prc.v)], .str (B p), .str (B v)] [] none = some ⟨.ret (varA (declV ps p v)), [], none⟩ := by
  have key : ∀ vs : List Vr, vs.length ≤ 3000000 → ∀ i : Nat, i ≤ vs.length → ref12_Var.L1_1_1_1_0_1_0 (B v) (vs.map Vr.v) (i : Int) (ps.map Prc.v) = some ⟨.ret (varA (varQ v (vs.drop i))), [], none⟩ := by
    intro vs hvs
    refine down ?_ fun i hi ih => ?_
    · rw [ref12_Var.L1_1_1_1_0_1_0_eq]; simp [varQ, varA]; rfl
    · simp only [Int.natCast_add, Int.natCast_one] at ih
      rw [ref12_Var.L1_1_1_1_0_1_0_eq, List.drop_eq_getElem_cons hi, varQ]
      by_cases c : vs[i].name = v
      · simp (disch := omega) [hi, c, varA]
        simp [Vr.v, c]
      · simp (disch := omega) [hi, wrap_in, c, ih]
  have hp := ref12_Proc_is ps hs.len p
  rw [ref12_Var.eq, hp]
  unfold declV
  rcases proc_cases p ps 0 with ⟨h1, h2⟩ | ⟨j, hj, h1, h2⟩
  · simp [h1, h2, varA]; rfl
  · obtain ⟨hq1, hq2⟩ := hs.proc _ (List.getElem_mem hj)
    have hv := ref04_Vars_is ps[j] hq1 hq2
    have hqv : ps[j].v = [V.str (B ps[j].name), V.sl .no T_api_Param (ps[j].params.map Par.v), V.int .i64 ps[j].type, V.sl .no T_api_Stmt (ps[j].body.map Stm.v)] := rfl
    rw [hqv] at hv
    have k0 := key (varsP ps[j]) (varsP_len _ hq1 hq2) 0 (Nat.zero_le _)
    simp only [Int.natCast_zero, List.drop_zero] at k0
    simp (disch := omega) [h1, h2, hj, hv, k0]
theorem ref12_of_is (n : Int) (a b : List Prc) : den Sp ref12_of.id [.int .i64 n, .agg [.sl .no T_api_Proc (a.map Prc.v)], .agg [.sl .no T_api_Proc (b.map Prc.v)]] [] none = some ⟨.ret (.tup [.agg [.sl .no T_api_Proc ((if n = 1 then b else a).map Prc.v)], .bool (ofS n a b).isSome]), [], none⟩ := by
  rw [ref12_of.eq]
  unfold ofS
  by_cases h1 : n = 1
  · simp [h1]
  · by_cases h0 : n = 0 <;> simp [h1, h0]
theorem procI_neg {n : List UInt8} {ps : List Prc} : procI n ps 0 < 0 ↔ procQ n ps = none := by
  rcases proc_cases n ps 0 with ⟨h1, h2⟩ | ⟨j, hj, h1, h2⟩
  · simp [h1, h2]
  · simp [h1, h2]
theorem ref12_same_is (a b : List Prc) (ha : Smalls a) (hb : Smalls b) (prs : List Pai) (hl : prs.length ≤ 1000000) (p : Pai) : den Sp ref12_same.id [.agg p.v, .sl .no T_api_Pair (prs.map Pai.v), .agg [.sl .no T_api_Proc (a.map Prc.v)], .agg [.sl .no T_api_Proc (b.map Prc.v)]] [] none = some ⟨.ret (.int .i64 (sameE a b prs p)), [], none⟩ := by
  have p1 := ref12_Proc_is a ha.len p.procA
  have p2 := ref12_Proc_is b hb.len p.procB
  have v1 := ref12_Var_is a ha p.procA p.varA
  have v2 := ref12_Var_is b hb p.procB p.varB
  have key : ∀ i : Nat, i ≤ prs.length → ∀ t : Bool, ref12_same.L1_1_1_0_1_0 (prs.map Pai.v) t (i : Int) (B p.procA) (B p.procB) (B p.varA) (B p.varB) (a.map Prc.v) (b.map Prc.v) =
      some ⟨.ret (.int .i64 (if t || (prs.drop i).any (fun q => decide (q.procA = p.procA) && decide (q.procB = p.procB)) then likeE (declV a p.procA p.varA) (declV b p.procB p.varB) else 90)), [], none⟩ := by
    refine down (fun t => ?_) fun i hi ih t => ?_
    · rw [ref12_same.L1_1_1_0_1_0_eq]
      cases t with
      | false => simp
      | true =>
        cases h1 : declV a p.procA p.varA with
        | none => cases h2 : declV b p.procB p.varB <;> simp [v1, v2, h1, h2, varA, likeE]
        | some x =>
          cases h2 : declV b p.procB p.varB with
          | none => simp [v1, v2, h1, h2, varA, likeE]
          | some y => by_cases c1 : x.type = y.type <;> by_cases c2 : x.size = y.size <;> simp [v1, v2, h1, h2, varA, likeE, c1, c2]
    · simp only [Int.natCast_add, Int.natCast_one] at ih
      rw [ref12_same.L1_1_1_0_1_0_eq, List.drop_eq_getElem_cons hi, List.any_cons]
      cases t with
      | true => simp (disch := omega) [hi, wrap_in, ih]
      | false => by_cases c1 : prs[i].procA = p.procA <;> by_cases c2 : prs[i].procB = p.procB <;> simp (disch := omega) [hi, wrap_in, ih, c1, c2]
  have k0 := key 0 (Nat.zero_le _) false
  simp only [Int.natCast_zero, List.drop_zero, Bool.false_or] at k0
  have hpv : p.v = [.str (B p.procA), .str (B p.procB), .str (B p.varA), .str (B p.varB)] := rfl
  rw [hpv, ref12_same.eq, p1]
  unfold sameE
  simp only [Option.bind_some, onRet_ret, asInt_int]
  by_cases c1 : procQ p.procA a = none
  · simp [c1, procI_neg.2 c1]
  · have d1 : ¬ procI p.procA a 0 < 0 := fun h => c1 (procI_neg.1 h)
    by_cases c2 : procQ p.procB b = none
    · simp [c1, d1, p2, c2, procI_neg.2 c2]
    · have d2 : ¬ procI p.procB b 0 < 0 := fun h => c2 (procI_neg.1 h)
      simp [c1, d1, p2, c2, d2, k0]
theorem ref12_pairs_is (a b : List Prc) (ha : Smalls a) (hb : Smalls b) (prs : List Pai) (hl : prs.length ≤ 1000000) : den Sp ref12_pairs.id [.sl .no T_api_Pair (prs.map Pai.v), .agg [.sl .no T_api_Proc (a.map Prc.v)], .agg [.sl .no T_api_Proc (b.map Prc.v)]] [] none =
    some ⟨.ret (.tup [.int .i64 ((pairsE a b [] prs 0).getD (0, 0)).1, .int .i64 ((pairsE a b [] prs 0).getD (0, 0)).2]), [], none⟩ := by
  have p1 := ref12_Proc_is a ha.len
  have p2 := ref12_Proc_is b hb.len
  have inner : ∀ (i : Nat) (hi : i < prs.length), procQ prs[i].procA a ≠ none → procQ prs[i].procB b ≠ none → (∀ x : Int, ref12_pairs.L1_0_1_0v1 (prs.map Pai.v) ((i + 1 : Nat) : Int) x (a.map Prc.v) (b.map Prc.v) = some ⟨.ret (.tup [.int .i64 ((pairsE a b (prs.take (i + 1)) (prs.drop (i + 1)) ((i + 1 : Nat) : Int)).getD (0, 0)).1, .int .i64 ((pairsE a b (prs.take (i + 1)) (prs.drop (i + 1)) ((i + 1 : Nat) : Int)).getD (0, 0)).2]), [], none⟩) →
      ∀ k : Nat, k ≤ i → ref12_pairs.L1_0_1_0_0_1_0_0_1_1_0 (prs.map Pai.v) (i : Int) (k : Int) (a.map Prc.v) (b.map Prc.v) = some ⟨.ret (.tup (if ((prs.take i).drop k).any (fun q => decide (q.procA = prs[i].procA) || decide (q.procB = prs[i].procB)) then [.int .i64 (i : Int), .int .i64 90] else
        [.int .i64 ((pairsE a b (prs.take (i + 1)) (prs.drop (i + 1)) ((i + 1 : Nat) : Int)).getD (0, 0)).1, .int .i64 ((pairsE a b (prs.take (i + 1)) (prs.drop (i + 1)) ((i + 1 : Nat) : Int)).getD (0, 0)).2])), [], none⟩ := by
    intro i hi q1 q2 hn
    simp only [Int.natCast_add, Int.natCast_one] at hn
    refine down ?_ fun k hk ih => ?_
    · have e : (prs.take i).drop i = [] := by rw [List.drop_eq_nil_iff, List.length_take]; omega
      rw [ref12_pairs.L1_0_1_0_0_1_0_0_1_1_0_eq, e]
      simp (disch := omega) [wrap_in, hn]
    · have hk' : k < prs.length := by omega
      have e : (prs.take i).drop k = prs[k] :: (prs.take i).drop (k + 1) := by
        rw [List.drop_eq_getElem_cons (by rw [List.length_take]; omega), List.getElem_take]
      simp only [Int.natCast_add, Int.natCast_one] at ih
      rw [ref12_pairs.L1_0_1_0_0_1_0_0_1_1_0_eq, e, List.any_cons]
      by_cases c1 : prs[k].procA = prs[i].procA <;> by_cases c2 : prs[k].procB = prs[i].procB <;> simp (disch := omega) [hi, hk, hk', wrap_in, c1, c2, ih]
  have outer : ∀ i : Nat, i ≤ prs.length → ∀ x : Int, ref12_pairs.L1_0_1_0v1 (prs.map Pai.v) (i : Int) x (a.map Prc.v) (b.map Prc.v) = some ⟨.ret (.tup [.int .i64 ((pairsE a b (prs.take i) (prs.drop i) (i : Int)).getD (0, 0)).1, .int .i64 ((pairsE a b (prs.take i) (prs.drop i) (i : Int)).getD (0, 0)).2]), [], none⟩ := by
    refine down (fun x => ?_) fun i hi ih x => ?_
    · rw [ref12_pairs.L1_0_1_0v1_eq]; simp [pairsE]
    · have e2 : prs.take i ++ [prs[i]] = prs.take (i + 1) := List.take_succ_eq_append_getElem hi |>.symm
      rw [ref12_pairs.L1_0_1_0v1_eq, List.drop_eq_getElem_cons hi, pairsE, e2]
      have p1i := p1 prs[i].procA
      have p2i := p2 prs[i].procB
      unfold pairE
      by_cases c1 : procQ prs[i].procA a = none
      · simp (disch := omega) [hi, p1i, c1, procI_neg.2 c1]
      · have d1 : ¬ procI prs[i].procA a 0 < 0 := fun h => c1 (procI_neg.1 h)
        by_cases c2 : procQ prs[i].procB b = none
        · simp (disch := omega) [hi, p1i, p2i, c1, d1, c2, procI_neg.2 c2]
        · have d2 : ¬ procI prs[i].procB b 0 < 0 := fun h => c2 (procI_neg.1 h)
          have h0 := inner i hi c1 c2 (fun x => ih x) 0 (Nat.zero_le _)
          simp only [Int.natCast_zero, List.drop_zero] at h0
          simp (disch := omega) only [hi, p1i, p2i, c1, d1, c2, d2, h0, List.length_map, decide_eq_true (show (i : Int) < (prs.length : Int) by omega), cond_true, if_pos (in_row hi), Int.toNat_natCast, map_at _ _ _ hi, Pai.v_0, Pai.v_1, asStr_str, Option.bind_some, onRet_ret, asInt_int, decide_false, cond_false, if_false]
          by_cases c3 : (prs.take i).any (fun q => decide (q.procA = prs[i].procA) || decide (q.procB = prs[i].procB)) = true
          · simp [c3]
          · simp [c3]
  have h0 := outer 0 (Nat.zero_le _) 0
  have hstart : ref12_pairs.L1_0_1_0 (prs.map Pai.v) (a.map Prc.v) (b.map Prc.v) = ref12_pairs.L1_0_1_0v1 (prs.map Pai.v) 0 0 (a.map Prc.v) (b.map Prc.v) := by
    rw [ref12_pairs.L1_0_1_0_eq, ref12_pairs.L1_0_1_0v1_eq]
    rfl
  rw [ref12_pairs.eq, hstart]
  simpa using h0
end Go.Proofs.YtmhnmelaodhemaaGreatDoor
namespace Go.Proofs.YtmhnmelaodhemaaGreatDoor
open Go Go.Proofs.Ab Go.Proofs.Px
set_option linter.unusedVariables false
set_option linter.unusedSimpArgs false
set_option maxRecDepth 100000
theorem ref04_Count_is (q : Prc) (hc : Stm.counts q.body ≤ 1000000) : den Sp ref04_Count.id [.agg q.v] [] none = some ⟨.ret (.int .i64 (Stm.counts q.body : Int)), [], none⟩ := by
  have h := ref04_total_is q.body hc
  have hqv : q.v = [V.str (B q.name), V.sl .no T_api_Param (q.params.map Par.v), V.int .i64 q.type, V.sl .no T_api_Stmt (q.body.map Stm.v)] := rfl
  rw [hqv, ref04_Count.eq, h]
  simp
theorem ofS_some {n : Int} {a b ps : List Prc} (h : ofS n a b = some ps) : (if n = 1 then b else a) = ps ∧ (ps = a ∨ ps = b) := by
  unfold ofS at h
  split at h
  · cases h; exact ⟨by simp [*], .inr rfl⟩
  · split at h
    · cases h; exact ⟨by simp [*], .inl rfl⟩
    · cases h
theorem ref12_stop_is (a b : List Prc) (ha : Smalls a) (hb : Smalls b) (x : Bk) (hx : x.whn.length ≤ 1000000) (hm : (Lit.int .i64 x.mark).wf = true) : den Sp ref12_stop.id [.agg x.v, .agg [.sl .no T_api_Proc (a.map Prc.v)], .agg [.sl .no T_api_Proc (b.map Prc.v)]] [] none = some ⟨.ret (.int .i64 (stopE a b x)), [], none⟩ := by
  have hS : Smalls (if x.side = 1 then b else a) := by split <;> assumption
  have hxv : x.v = [.int .i64 x.side, .str (B x.prc), .int .i64 x.mark, .sl .no T_api_Expr (x.whn.map Ex.v)] := rfl
  have hp := ref12_Proc_is (if x.side = 1 then b else a) hS.len x.prc
  have key : ∀ (ps : List Prc) (k : Nat) (hk : k < ps.length), ps[k].params.length ≤ 1000000 → Stm.counts ps[k].body ≤ 1000000 → ∀ i : Nat, i ≤ x.whn.length → ref12_stop.L1_1_1_1_1_0_1_0 (k : Int) (i : Int) x.side (B x.prc) x.mark (x.whn.map Ex.v) (a.map Prc.v) (b.map Prc.v) (ps.map Prc.v) = some ⟨.ret (.int .i64 (whenE (varsP ps[k]) x.mark (x.whn.drop i))), [], none⟩ := by
    intro ps k hk h1 h2
    have hv := ref04_Vars_is ps[k] h1 h2
    have hqv : ps[k].v = [V.str (B ps[k].name), V.sl .no T_api_Param (ps[k].params.map Par.v), V.int .i64 ps[k].type, V.sl .no T_api_Stmt (ps[k].body.map Stm.v)] := rfl
    rw [hqv] at hv
    refine down ?_ fun i hi ih => ?_
    · rw [ref12_stop.L1_1_1_1_1_0_1_0_eq]; simp [whenE]
    · simp only [Int.natCast_add, Int.natCast_one] at ih
      have ht := ref04_TypeOf_is (varsP ps[k]) (by have := varsP_len ps[k] h1 h2; omega) x.mark x.whn[i]
      rw [ref12_stop.L1_1_1_1_1_0_1_0_eq, List.drop_eq_getElem_cons hi, whenE]
      by_cases c1 : (tyP (varsP ps[k]) x.mark x.whn[i]).1 = 0
      · by_cases c2 : (tyP (varsP ps[k]) x.mark x.whn[i]).2 = 2 <;> simp (disch := omega) [hi, hk, hv, ht, c1, c2, wrap_in, ih, List.getElem?_cons_zero]
      · simp (disch := omega) [hi, hk, hv, ht, c1, List.getElem?_cons_zero]
  rw [hxv, ref12_stop.eq, ref12_of_is]
  unfold stopE
  cases ho : ofS x.side a b with
  | none => simp [hp]
  | some ps =>
    obtain ⟨e1, e2⟩ := ofS_some ho
    rw [e1] at hp hS ⊢
    rcases proc_cases x.prc ps 0 with ⟨h1, h2⟩ | ⟨j, hj, h1, h2⟩
    · simp [hp, h1, h2]
    · obtain ⟨q1, q2⟩ := hS.proc _ (List.getElem_mem hj)
      have hc := ref04_Count_is ps[j] q2
      have hqv : ps[j].v = [V.str (B ps[j].name), V.sl .no T_api_Param (ps[j].params.map Par.v), V.int .i64 ps[j].type, V.sl .no T_api_Stmt (ps[j].body.map Stm.v)] := rfl
      rw [hqv] at hc
      have k0 := key ps j hj q1 q2 0 (Nat.zero_le _)
      simp only [Int.natCast_zero, List.drop_zero] at k0
      have hm2 : x.mark ≤ 9223372036854775807 := by
        simp [Lit.wf, IntKind.min, IntKind.max, IntKind.bits, IntKind.signed] at hm
        omega
      by_cases c1 : x.mark < 0
      · simp (disch := omega) [hp, h1, h2, hj, c1, List.getElem?_cons_zero]
      · have hw : IntKind.wrap .i64 (x.mark - 1) = x.mark - 1 := wrap_in (by omega) (by omega)
        by_cases c2 : (Stm.counts ps[j].body : Int) + 1 < x.mark
        · have c3 : (Stm.counts ps[j].body : Int) < x.mark - 1 := by omega
          simp (disch := omega) [hp, h1, h2, hj, c1, c2, hw, List.getElem?_cons_zero]
          simp [hc, c3]
        · have c3 : ¬ (Stm.counts ps[j].body : Int) < x.mark - 1 := by omega
          have c4 : ¬ ((j : Nat) : Int) < 0 := by omega
          simp only [hp, h1, h2, Int.zero_add, Option.bind_some, onRet_ret, asTup_2, asAgg_1, List.getD_cons_zero, List.getD_cons_succ, asSl_sl, asBool_bool, asInt_int, Option.isSome_some, Bool.not_true, cond_false, decide_eq_false c4, decide_eq_false c1, List.length_map, if_pos (in_row hj), Int.toNat_natCast, map_at _ _ _ hj, Prc.v_0, Prc.v_1, Prc.v_2, Prc.v_3, asStr_str, hc, hw, gt_iff_lt, decide_eq_false c3, k0, if_neg c1, if_neg c2]
end Go.Proofs.YtmhnmelaodhemaaGreatDoor
