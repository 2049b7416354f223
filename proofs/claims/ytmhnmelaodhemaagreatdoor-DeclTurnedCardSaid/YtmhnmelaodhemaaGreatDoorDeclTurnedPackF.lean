/- Own texts under the law DeclTurned, merged, without what it does not lean on: part 6 of 6 (the abstract machine and its proof; residual forms; contracts; the plain law). -/
import Derived.Test.YtmhnmelaodhemaaGreatDoorDeclTurnedPackE
namespace Go.Proofs.YtmhnmelaodhemaaGreatDoor
open Go Go.Proofs.Ab
set_option maxRecDepth 100000
set_option linter.unusedVariables false
namespace check_count
noncomputable abbrev e (p : List Nat) := ev Sp (den Sp) id Tryz.f91.ntmps (cAt (bodyOf Tryz.f91) p)
noncomputable abbrev cn (n0 : List Nat) := canon Sp id n0
noncomputable abbrev K : K := kFin Sp (den Sp) Tryz.f91 0
noncomputable def L1_1_0_1_0 (i0 : Int) (l1 : List (List V)) (i2 i3 : Int) : Option Res := LP (e [1, 1, 0, 1, 0, 0]) (cn []) (kBlk 0 (kSeq (e [1, 1, 1]) (K))) ([(3, (V.int .i64 i0)), (6, (V.sl .no T_api_Stmt l1)), (7, (V.int .i64 i2)), (8, (V.int .i64 i3))], ⟨[], [], [], [], none⟩)
theorem L1_1_0_1_0_eq (i0 : Int) (l1 : List (List V)) (i2 i3 : Int) : L1_1_0_1_0 i0 l1 i2 i3 =
    (bif (decide (i3 < i2)) then (if (((0 : Int) ≤ i3) ∧ (i3 < (l1.length : Int))) then (V.asInt (List.getD (List.getD l1 (Int.toNat i3) []) 0 V.undef) .i64 (fun n10 => (V.asStr (List.getD (List.getD l1 (Int.toNat i3) []) 1 V.undef) (fun s11 => (V.asStr (List.getD (List.getD l1 (Int.toNat i3) []) 2 V.undef) (fun s12 => (V.asInt (List.getD (List.getD l1 (Int.toNat i3) []) 3 V.undef) .i64 (fun n13 => (V.asSl (List.getD (List.getD l1 (Int.toNat i3) []) 4 V.undef) T_api_Expr (fun es14 => (V.asSl (List.getD (List.getD l1 (Int.toNat i3) []) 5 V.undef) T_api_Stmt (fun es15 => (V.asSl (List.getD (List.getD l1 (Int.toNat i3) []) 6 V.undef) T_api_Stmt (fun es16 => ((den Sp check_count.id [(V.sl .no T_api_Stmt es15)] [] none)).bind (fun r18 => (Res.onRet r18 (fun v19 => (V.asInt v19 .i64 (fun n20 => ((den Sp check_count.id [(V.sl .no T_api_Stmt es16)] [] none)).bind (fun r21 => (Res.onRet r21 (fun v22 => (V.asInt v22 .i64 (fun n23 => (L1_1_0_1_0 (IntKind.wrap .i64 (i0 + (IntKind.wrap .i64 ((IntKind.wrap .i64 ((1 : Int) + n20)) + n23)))) l1 i2 (IntKind.wrap .i64 (i3 + (1 : Int)))))))))))))))))))))))))))) else none) else (some ⟨(Out.ret (V.int .i64 i0)), [], none⟩)) := (LP_eq ..).trans (by kernel_rfl)
theorem eq (a0 : (List (List V))) : den Sp id [(V.sl .no T_api_Stmt a0)] [] none =
    (L1_1_0_1_0 (0 : Int) a0 (a0.length : Int) (0 : Int)) := (den_eq ..).trans (by kernel_rfl)
end check_count
end Go.Proofs.YtmhnmelaodhemaaGreatDoor
namespace Go.Proofs.YtmhnmelaodhemaaGreatDoor
open Go Go.Proofs.Ab Go.Proofs.Px
set_option linter.unusedVariables false
set_option linter.unusedSimpArgs false
set_option maxRecDepth 100000
theorem check_count_is : ∀ l : List Stm, Stm.counts l ≤ 1000000 → den Sp check_count.id [.sl .no T_api_Stmt (l.map Stm.v)] [] none = some ⟨.ret (.int .i64 (Stm.counts l : Int)), [], none⟩ := by
  refine Stm.ind_list fun l ih hc => ?_
  have hlen := Stm.counts_len l
  have key : ∀ i : Nat, i ≤ l.length → ∀ n : Int, 0 ≤ n → n + (Stm.counts (l.drop i) : Int) ≤ 1000000 → check_count.L1_1_0_1_0 n (l.map Stm.v) (l.length : Int) (i : Int) = some ⟨.ret (.int .i64 (n + (Stm.counts (l.drop i) : Int))), [], none⟩ := by
    refine down (fun n hn h => ?_) fun i hi ihi n hn h => ?_
    · rw [check_count.L1_1_0_1_0_eq]; simp [Stm.counts]
    · rw [Stm.counts_drop hi, Stm.count_is] at h
      have hm := List.getElem_mem hi
      have h1 := (ih _ hm).1 (by omega)
      have h2 := (ih _ hm).2 (by omega)
      have h3 := ihi (n + (1 + (Stm.counts l[i].body : Int) + (Stm.counts l[i].els : Int))) (by omega) (by omega)
      rw [check_count.L1_1_0_1_0_eq]
      simp (disch := omega) [hi, h1, h2, wrap_in]
      rw [Stm.counts_drop hi, Stm.count_is]
      simp only [Int.natCast_add, Int.add_assoc] at h3 ⊢
      exact h3
  rw [check_count.eq]
  simpa using key 0 (Nat.zero_le _) 0 (by omega) (by simp; omega)
end Go.Proofs.YtmhnmelaodhemaaGreatDoor
namespace Go.Proofs.YtmhnmelaodhemaaGreatDoor
open Go Go.Proofs.Ab
set_option maxRecDepth 100000
set_option linter.unusedVariables false
namespace check_declared
noncomputable abbrev e (p : List Nat) := ev Sp (den Sp) id Tryz.f167.ntmps (cAt (bodyOf Tryz.f167) p)
noncomputable abbrev cn (n0 : List Nat) := canon Sp id n0
noncomputable abbrev K : K := kFin Sp (den Sp) Tryz.f167 0
noncomputable def L1_1_1_0_1_0 (i0 : Int) (l1 : List (List V)) (i2 : Int) (l3 : List (List V)) (i4 i5 : Int) : Option Res := LP (e [1, 1, 1, 0, 1, 0, 0]) (cn []) (kBlk 0 (kSeq (e [1, 1, 1, 1]) (K))) ([(1, (V.int .i64 i0)), (5, (V.sl (Tok.row 0) T_api_Var l1)), (6, (V.int .i64 i2)), (15, (V.sl .no T_api_Stmt l3)), (16, (V.int .i64 i4)), (17, (V.int .i64 i5))], ⟨[], [0], [], [], none⟩)
theorem L1_1_1_0_1_0_eq (i0 : Int) (l1 : List (List V)) (i2 : Int) (l3 : List (List V)) (i4 i5 : Int) : L1_1_1_0_1_0 i0 l1 i2 l3 i4 i5 =
    (bif (decide (i5 < i4)) then (if (((0 : Int) ≤ i5) ∧ (i5 < (l3.length : Int))) then (V.asInt (List.getD (List.getD l3 (Int.toNat i5) []) 0 V.undef) .i64 (fun n17 => (V.asStr (List.getD (List.getD l3 (Int.toNat i5) []) 1 V.undef) (fun s18 => (V.asStr (List.getD (List.getD l3 (Int.toNat i5) []) 2 V.undef) (fun s19 => (V.asInt (List.getD (List.getD l3 (Int.toNat i5) []) 3 V.undef) .i64 (fun n20 => (V.asSl (List.getD (List.getD l3 (Int.toNat i5) []) 4 V.undef) T_api_Expr (fun es21 => (V.asSl (List.getD (List.getD l3 (Int.toNat i5) []) 5 V.undef) T_api_Stmt (fun es22 => (V.asSl (List.getD (List.getD l3 (Int.toNat i5) []) 6 V.undef) T_api_Stmt (fun es23 => (bif (n17 == (1 : Int)) then (bif (n20 == (Neg.neg (1 : Int))) then (if (((List.length l1) + (List.length [[(V.str s18), (V.int .i64 (2 : Int)), (V.int .i64 (0 : Int)), (V.int .i64 (IntKind.wrap .i64 (i0 + (1 : Int)))), (V.int .i64 i2)]])) ≤ most) then ((den Sp check_declared.id [(V.sl .no T_api_Stmt es22), (V.int .i64 (IntKind.wrap .i64 (i0 + (1 : Int))))] [] none)).bind (fun r30 => (Res.onRet r30 (fun v31 => (V.asSl v31 T_api_Var (fun es32 => (if (((List.length (l1 ++ [[(V.str s18), (V.int .i64 (2 : Int)), (V.int .i64 (0 : Int)), (V.int .i64 (IntKind.wrap .i64 (i0 + (1 : Int)))), (V.int .i64 i2)]])) + (List.length es32)) ≤ most) then ((den Sp check_count.id [(V.sl .no T_api_Stmt es22)] [] none)).bind (fun r34 => (Res.onRet r34 (fun v35 => (V.asInt v35 .i64 (fun n36 => ((den Sp check_declared.id [(V.sl .no T_api_Stmt es23), (V.int .i64 (IntKind.wrap .i64 ((IntKind.wrap .i64 (i0 + (1 : Int))) + n36)))] [] none)).bind (fun r37 => (Res.onRet r37 (fun v38 => (V.asSl v38 T_api_Var (fun es39 => (if (((List.length ((l1 ++ [[(V.str s18), (V.int .i64 (2 : Int)), (V.int .i64 (0 : Int)), (V.int .i64 (IntKind.wrap .i64 (i0 + (1 : Int)))), (V.int .i64 i2)]]) ++ es32)) + (List.length es39)) ≤ most) then ((den Sp check_count.id [(V.sl .no T_api_Stmt es22)] [] none)).bind (fun r41 => (Res.onRet r41 (fun v42 => (V.asInt v42 .i64 (fun n43 => ((den Sp check_count.id [(V.sl .no T_api_Stmt es23)] [] none)).bind (fun r44 => (Res.onRet r44 (fun v45 => (V.asInt v45 .i64 (fun n46 => (L1_1_1_0_1_0 (IntKind.wrap .i64 (i0 + (IntKind.wrap .i64 ((IntKind.wrap .i64 ((1 : Int) + n43)) + n46)))) (((l1 ++ [[(V.str s18), (V.int .i64 (2 : Int)), (V.int .i64 (0 : Int)), (V.int .i64 (IntKind.wrap .i64 (i0 + (1 : Int)))), (V.int .i64 i2)]]) ++ es32) ++ es39) i2 l3 i4 (IntKind.wrap .i64 (i5 + (1 : Int)))))))))))))) else none))))))))))) else none)))))) else none) else (if (((List.length l1) + (List.length [[(V.str s18), (V.int .i64 (1 : Int)), (V.int .i64 (if ((65 : Int) < n20) then (65 : Int) else n20)), (V.int .i64 (IntKind.wrap .i64 (i0 + (1 : Int)))), (V.int .i64 i2)]])) ≤ most) then ((den Sp check_declared.id [(V.sl .no T_api_Stmt es22), (V.int .i64 (IntKind.wrap .i64 (i0 + (1 : Int))))] [] none)).bind (fun r30 => (Res.onRet r30 (fun v31 => (V.asSl v31 T_api_Var (fun es32 => (if (((List.length (l1 ++ [[(V.str s18), (V.int .i64 (1 : Int)), (V.int .i64 (if ((65 : Int) < n20) then (65 : Int) else n20)), (V.int .i64 (IntKind.wrap .i64 (i0 + (1 : Int)))), (V.int .i64 i2)]])) + (List.length es32)) ≤ most) then ((den Sp check_count.id [(V.sl .no T_api_Stmt es22)] [] none)).bind (fun r34 => (Res.onRet r34 (fun v35 => (V.asInt v35 .i64 (fun n36 => ((den Sp check_declared.id [(V.sl .no T_api_Stmt es23), (V.int .i64 (IntKind.wrap .i64 ((IntKind.wrap .i64 (i0 + (1 : Int))) + n36)))] [] none)).bind (fun r37 => (Res.onRet r37 (fun v38 => (V.asSl v38 T_api_Var (fun es39 => (if (((List.length ((l1 ++ [[(V.str s18), (V.int .i64 (1 : Int)), (V.int .i64 (if ((65 : Int) < n20) then (65 : Int) else n20)), (V.int .i64 (IntKind.wrap .i64 (i0 + (1 : Int)))), (V.int .i64 i2)]]) ++ es32)) + (List.length es39)) ≤ most) then ((den Sp check_count.id [(V.sl .no T_api_Stmt es22)] [] none)).bind (fun r41 => (Res.onRet r41 (fun v42 => (V.asInt v42 .i64 (fun n43 => ((den Sp check_count.id [(V.sl .no T_api_Stmt es23)] [] none)).bind (fun r44 => (Res.onRet r44 (fun v45 => (V.asInt v45 .i64 (fun n46 => (L1_1_1_0_1_0 (IntKind.wrap .i64 (i0 + (IntKind.wrap .i64 ((IntKind.wrap .i64 ((1 : Int) + n43)) + n46)))) (((l1 ++ [[(V.str s18), (V.int .i64 (1 : Int)), (V.int .i64 (if ((65 : Int) < n20) then (65 : Int) else n20)), (V.int .i64 (IntKind.wrap .i64 (i0 + (1 : Int)))), (V.int .i64 i2)]]) ++ es32) ++ es39) i2 l3 i4 (IntKind.wrap .i64 (i5 + (1 : Int)))))))))))))) else none))))))))))) else none)))))) else none)) else ((den Sp check_declared.id [(V.sl .no T_api_Stmt es22), (V.int .i64 (IntKind.wrap .i64 (i0 + (1 : Int))))] [] none)).bind (fun r26 => (Res.onRet r26 (fun v27 => (V.asSl v27 T_api_Var (fun es28 => (if (((List.length l1) + (List.length es28)) ≤ most) then ((den Sp check_count.id [(V.sl .no T_api_Stmt es22)] [] none)).bind (fun r30 => (Res.onRet r30 (fun v31 => (V.asInt v31 .i64 (fun n32 => ((den Sp check_declared.id [(V.sl .no T_api_Stmt es23), (V.int .i64 (IntKind.wrap .i64 ((IntKind.wrap .i64 (i0 + (1 : Int))) + n32)))] [] none)).bind (fun r33 => (Res.onRet r33 (fun v34 => (V.asSl v34 T_api_Var (fun es35 => (if (((List.length (l1 ++ es28)) + (List.length es35)) ≤ most) then ((den Sp check_count.id [(V.sl .no T_api_Stmt es22)] [] none)).bind (fun r37 => (Res.onRet r37 (fun v38 => (V.asInt v38 .i64 (fun n39 => ((den Sp check_count.id [(V.sl .no T_api_Stmt es23)] [] none)).bind (fun r40 => (Res.onRet r40 (fun v41 => (V.asInt v41 .i64 (fun n42 => (L1_1_1_0_1_0 (IntKind.wrap .i64 (i0 + (IntKind.wrap .i64 ((IntKind.wrap .i64 ((1 : Int) + n39)) + n42)))) ((l1 ++ es28) ++ es35) i2 l3 i4 (IntKind.wrap .i64 (i5 + (1 : Int)))))))))))))) else none))))))))))) else none))))))))))))))))))))) else none) else (some ⟨(Out.ret (V.sl .no T_api_Var l1)), [], none⟩)) := (LP_eq ..).trans (by kernel_rfl)
theorem eq (a0 : List (List V)) (a1 : Int) : den Sp id [(V.sl .no T_api_Stmt a0), (V.int .i64 a1)] [] none =
    ((den Sp check_count.id [(V.sl .no T_api_Stmt a0)] [] none)).bind (fun r5 => (Res.onRet r5 (fun v6 => (V.asInt v6 .i64 (fun n7 => (L1_1_1_0_1_0 a1 [] (IntKind.wrap .i64 ((IntKind.wrap .i64 (a1 + n7)) - (1 : Int))) a0 (a0.length : Int) (0 : Int))))))) := (den_eq ..).trans (by kernel_rfl)
end check_declared
namespace check_vars
noncomputable abbrev e (p : List Nat) := ev Sp (den Sp) id Tryz.f136.ntmps (cAt (bodyOf Tryz.f136) p)
noncomputable abbrev cn (n0 : List Nat) := canon Sp id n0
noncomputable abbrev K : K := kFin Sp (den Sp) Tryz.f136 0
noncomputable def L1_1_0_1_0 (l0 l1 : List (List V)) (i2 i3 : Int) (s4 : ByteArray) (l5 : List (List V)) (i6 : Int) (l7 : List (List V)) : Option Res := LP (e [1, 1, 0, 1, 0, 0]) (cn [1001]) (kBlk 0 (kSeq (e [1, 1, 1]) (K))) ([(1, (V.ref 1001 0)), (3, (V.sl (Tok.row 0) T_api_Var l0)), (7, (V.sl .no T_api_Param l1)), (8, (V.int .i64 i2)), (9, (V.int .i64 i3))], ⟨[(1001, (Blk.cells T_api_Proc [(V.str s4), (V.sl .no T_api_Param l5), (V.int .i64 i6), (V.sl .no T_api_Stmt l7)] false))], [0], [], [], none⟩)
theorem L1_1_0_1_0_eq (l0 l1 : List (List V)) (i2 i3 : Int) (s4 : ByteArray) (l5 : List (List V)) (i6 : Int) (l7 : List (List V)) : L1_1_0_1_0 l0 l1 i2 i3 s4 l5 i6 l7 =
    (bif (decide (i3 < i2)) then (if (((0 : Int) ≤ i3) ∧ (i3 < (l1.length : Int))) then (V.asStr (List.getD (List.getD l1 (Int.toNat i3) []) 0 V.undef) (fun s17 => (V.asInt (List.getD (List.getD l1 (Int.toNat i3) []) 1 V.undef) .i64 (fun n18 => ((den Sp check_count.id [(V.sl .no T_api_Stmt l7)] [] none)).bind (fun r20 => (Res.onRet r20 (fun v21 => (V.asInt v21 .i64 (fun n22 => (if (((List.length l0) + (List.length [[(V.str s17), (V.int .i64 n18), (V.int .i64 (0 : Int)), (V.int .i64 (0 : Int)), (V.int .i64 (IntKind.wrap .i64 (n22 + (1 : Int))))]])) ≤ most) then (L1_1_0_1_0 (l0 ++ [[(V.str s17), (V.int .i64 n18), (V.int .i64 (0 : Int)), (V.int .i64 (0 : Int)), (V.int .i64 (IntKind.wrap .i64 (n22 + (1 : Int))))]]) l1 i2 (IntKind.wrap .i64 (i3 + (1 : Int))) s4 l5 i6 l7) else none)))))))))) else none) else ((den Sp check_declared.id [(V.sl .no T_api_Stmt l7), (V.int .i64 (1 : Int))] [] none)).bind (fun r17 => (Res.onRet r17 (fun v18 => (V.asSl v18 T_api_Var (fun es19 => (if (((List.length l0) + (List.length es19)) ≤ most) then (some ⟨(Out.ret (V.sl .no T_api_Var (l0 ++ es19))), [], none⟩) else none))))))) := (LP_eq ..).trans (by kernel_rfl)
theorem eq (a0_0 : ByteArray) (a0_1 : List (List V)) (a0_2 : Int) (a0_3 : List (List V)) : den Sp id [(V.agg [(V.str a0_0), (V.sl .no T_api_Param a0_1), (V.int .i64 a0_2), (V.sl .no T_api_Stmt a0_3)])] [] none =
    (L1_1_0_1_0 [] a0_1 (a0_1.length : Int) (0 : Int) a0_0 a0_1 a0_2 a0_3) := (den_eq ..).trans (by kernel_rfl)
end check_vars
namespace check_ends
noncomputable abbrev e (p : List Nat) := ev Sp (den Sp) id Tryz.f139.ntmps (cAt (bodyOf Tryz.f139) p)
noncomputable abbrev cn (n0 : List Nat) := canon Sp id n0
noncomputable abbrev K : K := kFin Sp (den Sp) Tryz.f139 0
noncomputable def L1_0_1_0 (l0 : List (List V)) (i1 i2 : Int) : Option Res := LP (e [1, 0, 1, 0, 0]) (cn []) (kBlk 0 (kSeq (e [1, 1]) (K))) ([(5, (V.sl .no T_api_Stmt l0)), (6, (V.int .i64 i1)), (7, (V.int .i64 i2))], ⟨[], [], [], [], none⟩)
theorem L1_0_1_0_eq (l0 : List (List V)) (i1 i2 : Int) : L1_0_1_0 l0 i1 i2 =
    (bif (decide (i2 < i1)) then (if (((0 : Int) ≤ i2) ∧ (i2 < (l0.length : Int))) then (V.asInt (List.getD (List.getD l0 (Int.toNat i2) []) 0 V.undef) .i64 (fun n8 => (V.asStr (List.getD (List.getD l0 (Int.toNat i2) []) 1 V.undef) (fun s9 => (V.asStr (List.getD (List.getD l0 (Int.toNat i2) []) 2 V.undef) (fun s10 => (V.asInt (List.getD (List.getD l0 (Int.toNat i2) []) 3 V.undef) .i64 (fun n11 => (V.asSl (List.getD (List.getD l0 (Int.toNat i2) []) 4 V.undef) T_api_Expr (fun es12 => (V.asSl (List.getD (List.getD l0 (Int.toNat i2) []) 5 V.undef) T_api_Stmt (fun es13 => (V.asSl (List.getD (List.getD l0 (Int.toNat i2) []) 6 V.undef) T_api_Stmt (fun es14 => (bif (n8 == (7 : Int)) then (some ⟨(Out.ret (V.bool true)), [], none⟩) else (bif (n8 == (4 : Int)) then ((den Sp check_ends.id [(V.sl .no T_api_Stmt es13)] [] none)).bind (fun r16 => (Res.onRet r16 (fun v17 => (V.asBool v17 (fun b18 => (bif b18 then ((den Sp check_ends.id [(V.sl .no T_api_Stmt es14)] [] none)).bind (fun r19 => (Res.onRet r19 (fun v20 => (V.asBool v20 (fun b21 => (bif b21 then (some ⟨(Out.ret (V.bool true)), [], none⟩) else (L1_0_1_0 l0 i1 (IntKind.wrap .i64 (i2 + (1 : Int)))))))))) else (L1_0_1_0 l0 i1 (IntKind.wrap .i64 (i2 + (1 : Int)))))))))) else (L1_0_1_0 l0 i1 (IntKind.wrap .i64 (i2 + (1 : Int)))))))))))))))))))) else none) else (some ⟨(Out.ret (V.bool false)), [], none⟩)) := (LP_eq ..).trans (by kernel_rfl)
theorem eq (a0 : (List (List V))) : den Sp id [(V.sl .no T_api_Stmt a0)] [] none =
    (L1_0_1_0 a0 (a0.length : Int) (0 : Int)) := (den_eq ..).trans (by kernel_rfl)
end check_ends
namespace check_whole
noncomputable abbrev e (p : List Nat) := ev Sp (den Sp) id Tryz.f89.ntmps (cAt (bodyOf Tryz.f89) p)
noncomputable abbrev cn (n0 : List Nat) := canon Sp id n0
noncomputable abbrev K : K := kFin Sp (den Sp) Tryz.f89 0
noncomputable def L1_1_1_0_1_0 (l0 : List (List V)) (i1 i2 : Int) (l3 : List (List V)) (l4 : (List (Prod V V))) : Option Res := LP (e [1, 1, 1, 0, 1, 0, 0]) (cn [1001, 1012]) (kBlk 0 (kSeq (e [1, 1, 1, 1]) (K))) ([(1, (V.ref 1001 0)), (3, (V.mp 1012)), (14, (V.sl .no T_api_Proc l0)), (15, (V.int .i64 i1)), (16, (V.int .i64 i2)), (29, V.undef), (30, V.undef), (31, V.undef)], ⟨[(1001, (Blk.cells T_api_Prog [(V.sl .no T_api_Proc l3)] false)), (1012, (Blk.mp 9 4 l4 false))], [], [], [], none⟩)
noncomputable def L1_1_1_1_0_1_0 (l0 : List (List V)) (i1 i2 : Int) (l3 : List (List V)) (i4 i5 : Int) (l6 : List (List V)) (l7 : (List (Prod V V))) : Option Res := LP (e [1, 1, 1, 1, 0, 1, 0, 0]) (cn [1001, 1012]) (kBlk 2 (kSeq (e [1, 1, 1, 1, 1]) (K))) ([(1, (V.ref 1001 0)), (3, (V.mp 1012)), (14, (V.sl .no T_api_Proc l0)), (15, (V.int .i64 i1)), (16, (V.int .i64 i2)), (29, (V.sl .no T_api_Proc l3)), (30, (V.int .i64 i4)), (31, (V.int .i64 i5))], ⟨[(1001, (Blk.cells T_api_Prog [(V.sl .no T_api_Proc l6)] false)), (1012, (Blk.mp 9 4 l7 false))], [], [], [], none⟩)
theorem L1_1_1_0_1_0_eq (l0 : List (List V)) (i1 i2 : Int) (l3 : List (List V)) (l4 : (List (Prod V V))) : L1_1_1_0_1_0 l0 i1 i2 l3 l4 =
    (bif (decide (i2 < i1)) then (if (((0 : Int) ≤ i2) ∧ (i2 < (l0.length : Int))) then (V.asStr (List.getD (List.getD l0 (Int.toNat i2) []) 0 V.undef) (fun s12 => (V.asSl (List.getD (List.getD l0 (Int.toNat i2) []) 1 V.undef) T_api_Param (fun es13 => (V.asInt (List.getD (List.getD l0 (Int.toNat i2) []) 2 V.undef) .i64 (fun n14 => (V.asSl (List.getD (List.getD l0 (Int.toNat i2) []) 3 V.undef) T_api_Stmt (fun es15 => (V.asBool (mpGet (V.str s12) (V.bool false) l4) (fun b17 => (bif b17 then (some ⟨(Out.ret (V.int .i64 (40 : Int))), [], none⟩) else (L1_1_1_0_1_0 l0 i1 (IntKind.wrap .i64 (i2 + (1 : Int))) l3 (mpSet (V.str s12) (V.bool true) l4))))))))))))) else none) else (L1_1_1_1_0_1_0 l0 i1 i2 l3 (l3.length : Int) (0 : Int) l3 l4)) := (LP_eq ..).trans (by kernel_rfl)
theorem L1_1_1_1_0_1_0_eq (l0 : List (List V)) (i1 i2 : Int) (l3 : List (List V)) (i4 i5 : Int) (l6 : List (List V)) (l7 : (List (Prod V V))) : L1_1_1_1_0_1_0 l0 i1 i2 l3 i4 i5 l6 l7 =
    (bif (decide (i5 < i4)) then (if (((0 : Int) ≤ i5) ∧ (i5 < (l3.length : Int))) then (V.asStr (List.getD (List.getD l3 (Int.toNat i5) []) 0 V.undef) (fun s22 => (V.asSl (List.getD (List.getD l3 (Int.toNat i5) []) 1 V.undef) T_api_Param (fun es23 => (V.asInt (List.getD (List.getD l3 (Int.toNat i5) []) 2 V.undef) .i64 (fun n24 => (V.asSl (List.getD (List.getD l3 (Int.toNat i5) []) 3 V.undef) T_api_Stmt (fun es25 => (bif (decide (s22 = (ByteArray.mk #[109, 97, 105, 110]))) then (bif ((es23.length : Int) == (0 : Int)) then (bif (n24 == (0 : Int)) then (some ⟨(Out.ret (V.int .i64 (0 : Int))), [], none⟩) else (L1_1_1_1_0_1_0 l0 i1 i2 l3 i4 (IntKind.wrap .i64 (i5 + (1 : Int))) l6 l7)) else (L1_1_1_1_0_1_0 l0 i1 i2 l3 i4 (IntKind.wrap .i64 (i5 + (1 : Int))) l6 l7)) else (L1_1_1_1_0_1_0 l0 i1 i2 l3 i4 (IntKind.wrap .i64 (i5 + (1 : Int))) l6 l7)))))))))) else none) else (some ⟨(Out.ret (V.int .i64 (42 : Int))), [], none⟩)) := (LP_eq ..).trans (by kernel_rfl)
theorem eq (a0_0 : (List (List V))) : den Sp id [(V.agg [(V.sl .no T_api_Proc a0_0)])] [] none =
    (bif (decide ((a0_0.length : Int) > (40 : Int))) then (some ⟨(Out.ret (V.int .i64 (2 : Int))), [], none⟩) else (L1_1_1_0_1_0 a0_0 (a0_0.length : Int) (0 : Int) a0_0 [])) := (den_eq ..).trans (by kernel_rfl)
end check_whole
namespace check_checker_check
noncomputable abbrev e (p : List Nat) := ev Sp (den Sp) id Tryz.f90.ntmps (cAt (bodyOf Tryz.f90) p)
noncomputable abbrev cn (n0 : List Nat) := canon Sp id n0
noncomputable abbrev K : K := kFin Sp (den Sp) Tryz.f90 1
noncomputable def L1_1_1_1_1_0_1_0 (l0 : List (List V)) (i1 i2 : Int) (l3 : List (List V)) (i4 : Int) (l5 : List (List V)) (s6 : ByteArray) (l7 : List (List V)) (i8 : Int) (l9 : List (List V)) (l10 : (List (Prod V V))) : Option Res := LP (e [1, 1, 1, 1, 1, 0, 1, 0, 0]) (cn [0, 1002, 1003, 1037]) (kBlk 0 (kSeq (e [1, 1, 1, 1, 1, 1]) (K))) ([(0, (V.ref 0 0)), (2, (V.ref 1002 0)), (3, (V.ref 1003 0)), (4, (V.mp 1037)), (42, (V.sl .no T_api_Var l0)), (43, (V.int .i64 i1)), (44, (V.int .i64 i2))], ⟨[(0, (Blk.cells T_check_checker [(V.sl .no T_api_Var l3), (V.int .i64 i4), (V.sl .no T_api_Proc l5), (V.str s6), (V.sl .no T_api_Param l7), (V.int .i64 i8), (V.sl .no T_api_Stmt l9)] false)), (1002, (Blk.cells T_int [(V.int .i64 (0 : Int))] false)), (1003, (Blk.cells T_api_Errno [(V.int .i64 (0 : Int))] false)), (1037, (Blk.mp 9 4 l10 false))], [], [], [(134, [(V.ref 1002 0), (V.ref 1003 0)])], none⟩)
theorem L1_1_1_1_1_0_1_0_eq (l0 : List (List V)) (i1 i2 : Int) (l3 : List (List V)) (i4 : Int) (l5 : List (List V)) (s6 : ByteArray) (l7 : List (List V)) (i8 : Int) (l9 : List (List V)) (l10 : (List (Prod V V))) : L1_1_1_1_1_0_1_0 l0 i1 i2 l3 i4 l5 s6 l7 i8 l9 l10 =
    (bif (decide (i2 < i1)) then (if (((0 : Int) ≤ i2) ∧ (i2 < (l0.length : Int))) then (V.asStr (List.getD (List.getD l0 (Int.toNat i2) []) 0 V.undef) (fun s35 => (V.asInt (List.getD (List.getD l0 (Int.toNat i2) []) 1 V.undef) .i64 (fun n36 => (V.asInt (List.getD (List.getD l0 (Int.toNat i2) []) 2 V.undef) .i64 (fun n37 => (V.asInt (List.getD (List.getD l0 (Int.toNat i2) []) 3 V.undef) .i64 (fun n38 => (V.asInt (List.getD (List.getD l0 (Int.toNat i2) []) 4 V.undef) .i64 (fun n39 => (V.asBool (mpGet (V.str s35) (V.bool false) l10) (fun b41 => ((den Sp check_names_need.id [(V.ref 0 0), (V.bool (!b41)), (V.int .i64 (40 : Int))] [(Blk.cells T_check_names [(V.sl .no T_api_Var l3), (V.int .i64 i4)] false)] none)).bind (fun r42 => (Blk.asCells (List.getD (Res.bl r42) 0 (Blk.cells T_n0 [] true)) T_check_names 2 (fun rd43 => (V.asSl (rd43 0) T_api_Var (fun es44 => (V.asInt (rd43 1) .i64 (fun n45 => (Res.onOut r42 (fun v46 => (V.asTup v46 0 (fun rd47 => (L1_1_1_1_1_0_1_0 l0 i1 (IntKind.wrap .i64 (i2 + (1 : Int))) es44 n45 l5 s6 l7 i8 l9 (mpSet (V.str s35) (V.bool true) l10))))) (fun v46 => (V.asIface v46 T_check_given (fun w47 => (V.asAgg w47 2 (fun rd48 => (V.asInt (rd48 0) .i64 (fun n49 => (V.asInt (rd48 1) .i64 (fun n50 => ((den Sp check_checker_check_1.id [(V.ref 0 0), (V.ref 1 0)] [(Blk.cells T_int [(V.int .i64 (0 : Int))] false), (Blk.cells T_api_Errno [(V.int .i64 (0 : Int))] false)] (some (some (V.iface T_check_given (V.agg [(V.int .i64 n49), (V.int .i64 n50)])))))).bind (fun r51 => (Blk.asCells (List.getD (Res.bl r51) 0 (Blk.cells T_n0 [] true)) T_int 1 (fun rd52 => (V.asInt (rd52 0) .i64 (fun n53 => (Blk.asCells (List.getD (Res.bl r51) 1 (Blk.cells T_n0 [] true)) T_api_Errno 1 (fun rd54 => (V.asInt (rd54 0) .i64 (fun n55 => (Res.onRet r51 (fun v56 => (V.asTup v56 0 (fun rd57 => (Res.onPn r51 (some ⟨(Out.ret (V.tup [(V.int .i64 n53), (V.int .i64 n55)])), [(Blk.cells T_check_checker [(V.sl .no T_api_Var es44), (V.int .i64 n45), (V.sl .no T_api_Proc l5), (V.str s6), (V.sl .no T_api_Param l7), (V.int .i64 i8), (V.sl .no T_api_Stmt l9)] false)], none⟩) (fun v58 => (some ⟨(Out.pan (V.iface T_check_given (V.agg [(V.int .i64 n49), (V.int .i64 n50)]))), [(Blk.cells T_check_checker [(V.sl .no T_api_Var es44), (V.int .i64 n45), (V.sl .no T_api_Proc l5), (V.str s6), (V.sl .no T_api_Param l7), (V.int .i64 i8), (V.sl .no T_api_Stmt l9)] false)], none⟩))))))))))))))))))))))))))))))))))))))))))))) else none) else ((den Sp check_checker_stmts.id [(V.ref 0 0), (V.sl .no T_api_Stmt l9)] [(Blk.cells T_check_checker [(V.sl .no T_api_Var l3), (V.int .i64 i4), (V.sl .no T_api_Proc l5), (V.str s6), (V.sl .no T_api_Param l7), (V.int .i64 i8), (V.sl .no T_api_Stmt l9)] false)] none)).bind (fun r35 => (Blk.asCells (List.getD (Res.bl r35) 0 (Blk.cells T_n0 [] true)) T_check_checker 7 (fun rd36 => (V.asSl (rd36 0) T_api_Var (fun es37 => (V.asInt (rd36 1) .i64 (fun n38 => (V.asSl (rd36 2) T_api_Proc (fun es39 => (V.asStr (rd36 3) (fun s40 => (V.asSl (rd36 4) T_api_Param (fun es41 => (V.asInt (rd36 5) .i64 (fun n42 => (V.asSl (rd36 6) T_api_Stmt (fun es43 => (Res.onOut r35 (fun v44 => (V.asTup v44 0 (fun rd45 => (bif (n42 == (0 : Int)) then ((den Sp check_names_need.id [(V.ref 0 0), (V.bool true), (V.int .i64 (43 : Int))] [(Blk.cells T_check_names [(V.sl .no T_api_Var es37), (V.int .i64 (IntKind.wrap .i64 (n38 + (1 : Int))))] false)] none)).bind (fun r48 => (Blk.asCells (List.getD (Res.bl r48) 0 (Blk.cells T_n0 [] true)) T_check_names 2 (fun rd49 => (V.asSl (rd49 0) T_api_Var (fun es50 => (V.asInt (rd49 1) .i64 (fun n51 => (Res.onOut r48 (fun v52 => (V.asTup v52 0 (fun rd53 => ((den Sp check_checker_check_1.id [(V.ref 0 0), (V.ref 1 0)] [(Blk.cells T_int [(V.int .i64 (0 : Int))] false), (Blk.cells T_api_Errno [(V.int .i64 (0 : Int))] false)] (some none))).bind (fun r55 => (Blk.asCells (List.getD (Res.bl r55) 0 (Blk.cells T_n0 [] true)) T_int 1 (fun rd56 => (V.asInt (rd56 0) .i64 (fun n57 => (Blk.asCells (List.getD (Res.bl r55) 1 (Blk.cells T_n0 [] true)) T_api_Errno 1 (fun rd58 => (V.asInt (rd58 0) .i64 (fun n59 => (Res.onRet r55 (fun v60 => (V.asTup v60 0 (fun rd61 => (Res.onPn r55 (some ⟨(Out.ret (V.tup [(V.int .i64 n57), (V.int .i64 n59)])), [(Blk.cells T_check_checker [(V.sl .no T_api_Var es50), (V.int .i64 n51), (V.sl .no T_api_Proc es39), (V.str s40), (V.sl .no T_api_Param es41), (V.int .i64 n42), (V.sl .no T_api_Stmt es43)] false)], none⟩) (fun v62 => (some ⟨(Out.ret (V.tup [(V.int .i64 n57), (V.int .i64 n59)])), [(Blk.cells T_check_checker [(V.sl .no T_api_Var es50), (V.int .i64 n51), (V.sl .no T_api_Proc es39), (V.str s40), (V.sl .no T_api_Param es41), (V.int .i64 n42), (V.sl .no T_api_Stmt es43)] false)], none⟩))))))))))))))))))) (fun v52 => (V.asIface v52 T_check_given (fun w53 => (V.asAgg w53 2 (fun rd54 => (V.asInt (rd54 0) .i64 (fun n55 => (V.asInt (rd54 1) .i64 (fun n56 => ((den Sp check_checker_check_1.id [(V.ref 0 0), (V.ref 1 0)] [(Blk.cells T_int [(V.int .i64 (0 : Int))] false), (Blk.cells T_api_Errno [(V.int .i64 (0 : Int))] false)] (some (some (V.iface T_check_given (V.agg [(V.int .i64 n55), (V.int .i64 n56)])))))).bind (fun r57 => (Blk.asCells (List.getD (Res.bl r57) 0 (Blk.cells T_n0 [] true)) T_int 1 (fun rd58 => (V.asInt (rd58 0) .i64 (fun n59 => (Blk.asCells (List.getD (Res.bl r57) 1 (Blk.cells T_n0 [] true)) T_api_Errno 1 (fun rd60 => (V.asInt (rd60 0) .i64 (fun n61 => (Res.onRet r57 (fun v62 => (V.asTup v62 0 (fun rd63 => (Res.onPn r57 (some ⟨(Out.ret (V.tup [(V.int .i64 n59), (V.int .i64 n61)])), [(Blk.cells T_check_checker [(V.sl .no T_api_Var es50), (V.int .i64 n51), (V.sl .no T_api_Proc es39), (V.str s40), (V.sl .no T_api_Param es41), (V.int .i64 n42), (V.sl .no T_api_Stmt es43)] false)], none⟩) (fun v64 => (some ⟨(Out.pan (V.iface T_check_given (V.agg [(V.int .i64 n55), (V.int .i64 n56)]))), [(Blk.cells T_check_checker [(V.sl .no T_api_Var es50), (V.int .i64 n51), (V.sl .no T_api_Proc es39), (V.str s40), (V.sl .no T_api_Param es41), (V.int .i64 n42), (V.sl .no T_api_Stmt es43)] false)], none⟩))))))))))))))))))))))))))))))))) else ((den Sp check_ends.id [(V.sl .no T_api_Stmt es43)] [] none)).bind (fun r48 => (Res.onRet r48 (fun v49 => (V.asBool v49 (fun b50 => ((den Sp check_names_need.id [(V.ref 0 0), (V.bool b50), (V.int .i64 (43 : Int))] [(Blk.cells T_check_names [(V.sl .no T_api_Var es37), (V.int .i64 (IntKind.wrap .i64 (n38 + (1 : Int))))] false)] none)).bind (fun r51 => (Blk.asCells (List.getD (Res.bl r51) 0 (Blk.cells T_n0 [] true)) T_check_names 2 (fun rd52 => (V.asSl (rd52 0) T_api_Var (fun es53 => (V.asInt (rd52 1) .i64 (fun n54 => (Res.onOut r51 (fun v55 => (V.asTup v55 0 (fun rd56 => ((den Sp check_checker_check_1.id [(V.ref 0 0), (V.ref 1 0)] [(Blk.cells T_int [(V.int .i64 (0 : Int))] false), (Blk.cells T_api_Errno [(V.int .i64 (0 : Int))] false)] (some none))).bind (fun r58 => (Blk.asCells (List.getD (Res.bl r58) 0 (Blk.cells T_n0 [] true)) T_int 1 (fun rd59 => (V.asInt (rd59 0) .i64 (fun n60 => (Blk.asCells (List.getD (Res.bl r58) 1 (Blk.cells T_n0 [] true)) T_api_Errno 1 (fun rd61 => (V.asInt (rd61 0) .i64 (fun n62 => (Res.onRet r58 (fun v63 => (V.asTup v63 0 (fun rd64 => (Res.onPn r58 (some ⟨(Out.ret (V.tup [(V.int .i64 n60), (V.int .i64 n62)])), [(Blk.cells T_check_checker [(V.sl .no T_api_Var es53), (V.int .i64 n54), (V.sl .no T_api_Proc es39), (V.str s40), (V.sl .no T_api_Param es41), (V.int .i64 n42), (V.sl .no T_api_Stmt es43)] false)], none⟩) (fun v65 => (some ⟨(Out.ret (V.tup [(V.int .i64 n60), (V.int .i64 n62)])), [(Blk.cells T_check_checker [(V.sl .no T_api_Var es53), (V.int .i64 n54), (V.sl .no T_api_Proc es39), (V.str s40), (V.sl .no T_api_Param es41), (V.int .i64 n42), (V.sl .no T_api_Stmt es43)] false)], none⟩))))))))))))))))))) (fun v55 => (V.asIface v55 T_check_given (fun w56 => (V.asAgg w56 2 (fun rd57 => (V.asInt (rd57 0) .i64 (fun n58 => (V.asInt (rd57 1) .i64 (fun n59 => ((den Sp check_checker_check_1.id [(V.ref 0 0), (V.ref 1 0)] [(Blk.cells T_int [(V.int .i64 (0 : Int))] false), (Blk.cells T_api_Errno [(V.int .i64 (0 : Int))] false)] (some (some (V.iface T_check_given (V.agg [(V.int .i64 n58), (V.int .i64 n59)])))))).bind (fun r60 => (Blk.asCells (List.getD (Res.bl r60) 0 (Blk.cells T_n0 [] true)) T_int 1 (fun rd61 => (V.asInt (rd61 0) .i64 (fun n62 => (Blk.asCells (List.getD (Res.bl r60) 1 (Blk.cells T_n0 [] true)) T_api_Errno 1 (fun rd63 => (V.asInt (rd63 0) .i64 (fun n64 => (Res.onRet r60 (fun v65 => (V.asTup v65 0 (fun rd66 => (Res.onPn r60 (some ⟨(Out.ret (V.tup [(V.int .i64 n62), (V.int .i64 n64)])), [(Blk.cells T_check_checker [(V.sl .no T_api_Var es53), (V.int .i64 n54), (V.sl .no T_api_Proc es39), (V.str s40), (V.sl .no T_api_Param es41), (V.int .i64 n42), (V.sl .no T_api_Stmt es43)] false)], none⟩) (fun v67 => (some ⟨(Out.pan (V.iface T_check_given (V.agg [(V.int .i64 n58), (V.int .i64 n59)]))), [(Blk.cells T_check_checker [(V.sl .no T_api_Var es53), (V.int .i64 n54), (V.sl .no T_api_Proc es39), (V.str s40), (V.sl .no T_api_Param es41), (V.int .i64 n42), (V.sl .no T_api_Stmt es43)] false)], none⟩)))))))))))))))))))))))))))))))))))))))))) (fun v44 => (V.asIface v44 T_check_given (fun w45 => (V.asAgg w45 2 (fun rd46 => (V.asInt (rd46 0) .i64 (fun n47 => (V.asInt (rd46 1) .i64 (fun n48 => ((den Sp check_checker_check_1.id [(V.ref 0 0), (V.ref 1 0)] [(Blk.cells T_int [(V.int .i64 (0 : Int))] false), (Blk.cells T_api_Errno [(V.int .i64 (0 : Int))] false)] (some (some (V.iface T_check_given (V.agg [(V.int .i64 n47), (V.int .i64 n48)])))))).bind (fun r49 => (Blk.asCells (List.getD (Res.bl r49) 0 (Blk.cells T_n0 [] true)) T_int 1 (fun rd50 => (V.asInt (rd50 0) .i64 (fun n51 => (Blk.asCells (List.getD (Res.bl r49) 1 (Blk.cells T_n0 [] true)) T_api_Errno 1 (fun rd52 => (V.asInt (rd52 0) .i64 (fun n53 => (Res.onRet r49 (fun v54 => (V.asTup v54 0 (fun rd55 => (Res.onPn r49 (some ⟨(Out.ret (V.tup [(V.int .i64 n51), (V.int .i64 n53)])), [(Blk.cells T_check_checker [(V.sl .no T_api_Var es37), (V.int .i64 n38), (V.sl .no T_api_Proc es39), (V.str s40), (V.sl .no T_api_Param es41), (V.int .i64 n42), (V.sl .no T_api_Stmt es43)] false)], none⟩) (fun v56 => (some ⟨(Out.pan (V.iface T_check_given (V.agg [(V.int .i64 n47), (V.int .i64 n48)]))), [(Blk.cells T_check_checker [(V.sl .no T_api_Var es37), (V.int .i64 n38), (V.sl .no T_api_Proc es39), (V.str s40), (V.sl .no T_api_Param es41), (V.int .i64 n42), (V.sl .no T_api_Stmt es43)] false)], none⟩)))))))))))))))))))))))))))))))))))))))))))) := (LP_eq ..).trans (by kernel_rfl)
theorem eq (m0_0 : List (List V)) (m0_1 : Int) (m0_2 : List (List V)) (m0_3 : ByteArray) (m0_4 : List (List V)) (m0_5 : Int) (m0_6 : List (List V)) : den Sp id [(V.ref 0 0)] [(Blk.cells T_check_checker [(V.sl .no T_api_Var m0_0), (V.int .i64 m0_1), (V.sl .no T_api_Proc m0_2), (V.str m0_3), (V.sl .no T_api_Param m0_4), (V.int .i64 m0_5), (V.sl .no T_api_Stmt m0_6)] false)] none =
    ((den Sp check_vars.id [(V.agg [(V.str m0_3), (V.sl .no T_api_Param m0_4), (V.int .i64 m0_5), (V.sl .no T_api_Stmt m0_6)])] [] none)).bind (fun r10 => (Res.onRet r10 (fun v11 => (V.asSl v11 T_api_Var (fun es12 => (bif (decide ((m0_4.length : Int) ≤ (8 : Int))) then ((den Sp check_names_need.id [(V.ref 0 0), (V.bool (decide ((es12.length : Int) ≤ (60 : Int)))), (V.int .i64 (2 : Int))] [(Blk.cells T_check_names [(V.sl .no T_api_Var es12), (V.int .i64 m0_1)] false)] none)).bind (fun r14 => (Blk.asCells (List.getD (Res.bl r14) 0 (Blk.cells T_n0 [] true)) T_check_names 2 (fun rd15 => (V.asSl (rd15 0) T_api_Var (fun es16 => (V.asInt (rd15 1) .i64 (fun n17 => (Res.onOut r14 (fun v18 => (V.asTup v18 0 (fun rd19 => (L1_1_1_1_1_0_1_0 es16 (es16.length : Int) (0 : Int) es16 n17 m0_2 m0_3 m0_4 m0_5 m0_6 [])))) (fun v18 => (V.asIface v18 T_check_given (fun w19 => (V.asAgg w19 2 (fun rd20 => (V.asInt (rd20 0) .i64 (fun n21 => (V.asInt (rd20 1) .i64 (fun n22 => ((den Sp check_checker_check_1.id [(V.ref 0 0), (V.ref 1 0)] [(Blk.cells T_int [(V.int .i64 (0 : Int))] false), (Blk.cells T_api_Errno [(V.int .i64 (0 : Int))] false)] (some (some (V.iface T_check_given (V.agg [(V.int .i64 n21), (V.int .i64 n22)])))))).bind (fun r23 => (Blk.asCells (List.getD (Res.bl r23) 0 (Blk.cells T_n0 [] true)) T_int 1 (fun rd24 => (V.asInt (rd24 0) .i64 (fun n25 => (Blk.asCells (List.getD (Res.bl r23) 1 (Blk.cells T_n0 [] true)) T_api_Errno 1 (fun rd26 => (V.asInt (rd26 0) .i64 (fun n27 => (Res.onRet r23 (fun v28 => (V.asTup v28 0 (fun rd29 => (Res.onPn r23 (some ⟨(Out.ret (V.tup [(V.int .i64 n25), (V.int .i64 n27)])), [(Blk.cells T_check_checker [(V.sl .no T_api_Var es16), (V.int .i64 n17), (V.sl .no T_api_Proc m0_2), (V.str m0_3), (V.sl .no T_api_Param m0_4), (V.int .i64 m0_5), (V.sl .no T_api_Stmt m0_6)] false)], none⟩) (fun v30 => (some ⟨(Out.pan (V.iface T_check_given (V.agg [(V.int .i64 n21), (V.int .i64 n22)]))), [(Blk.cells T_check_checker [(V.sl .no T_api_Var es16), (V.int .i64 n17), (V.sl .no T_api_Proc m0_2), (V.str m0_3), (V.sl .no T_api_Param m0_4), (V.int .i64 m0_5), (V.sl .no T_api_Stmt m0_6)] false)], none⟩))))))))))))))))))))))))))))))))) else ((den Sp check_names_need.id [(V.ref 0 0), (V.bool false), (V.int .i64 (2 : Int))] [(Blk.cells T_check_names [(V.sl .no T_api_Var es12), (V.int .i64 m0_1)] false)] none)).bind (fun r14 => (Blk.asCells (List.getD (Res.bl r14) 0 (Blk.cells T_n0 [] true)) T_check_names 2 (fun rd15 => (V.asSl (rd15 0) T_api_Var (fun es16 => (V.asInt (rd15 1) .i64 (fun n17 => (Res.onOut r14 (fun v18 => (V.asTup v18 0 (fun rd19 => (L1_1_1_1_1_0_1_0 es16 (es16.length : Int) (0 : Int) es16 n17 m0_2 m0_3 m0_4 m0_5 m0_6 [])))) (fun v18 => (V.asIface v18 T_check_given (fun w19 => (V.asAgg w19 2 (fun rd20 => (V.asInt (rd20 0) .i64 (fun n21 => (V.asInt (rd20 1) .i64 (fun n22 => ((den Sp check_checker_check_1.id [(V.ref 0 0), (V.ref 1 0)] [(Blk.cells T_int [(V.int .i64 (0 : Int))] false), (Blk.cells T_api_Errno [(V.int .i64 (0 : Int))] false)] (some (some (V.iface T_check_given (V.agg [(V.int .i64 n21), (V.int .i64 n22)])))))).bind (fun r23 => (Blk.asCells (List.getD (Res.bl r23) 0 (Blk.cells T_n0 [] true)) T_int 1 (fun rd24 => (V.asInt (rd24 0) .i64 (fun n25 => (Blk.asCells (List.getD (Res.bl r23) 1 (Blk.cells T_n0 [] true)) T_api_Errno 1 (fun rd26 => (V.asInt (rd26 0) .i64 (fun n27 => (Res.onRet r23 (fun v28 => (V.asTup v28 0 (fun rd29 => (Res.onPn r23 (some ⟨(Out.ret (V.tup [(V.int .i64 n25), (V.int .i64 n27)])), [(Blk.cells T_check_checker [(V.sl .no T_api_Var es16), (V.int .i64 n17), (V.sl .no T_api_Proc m0_2), (V.str m0_3), (V.sl .no T_api_Param m0_4), (V.int .i64 m0_5), (V.sl .no T_api_Stmt m0_6)] false)], none⟩) (fun v30 => (some ⟨(Out.pan (V.iface T_check_given (V.agg [(V.int .i64 n21), (V.int .i64 n22)]))), [(Blk.cells T_check_checker [(V.sl .no T_api_Var es16), (V.int .i64 n17), (V.sl .no T_api_Proc m0_2), (V.str m0_3), (V.sl .no T_api_Param m0_4), (V.int .i64 m0_5), (V.sl .no T_api_Stmt m0_6)] false)], none⟩))))))))))))))))))))))))))))))))))))))) := (den_eq ..).trans (by kernel_rfl)
end check_checker_check
namespace check_checker_check_1
noncomputable abbrev e (p : List Nat) := ev Sp (den Sp) id Tryz.f134.ntmps (cAt (bodyOf Tryz.f134) p)
noncomputable abbrev cn (n0 : List Nat) := canon Sp id n0
noncomputable abbrev K : K := kFinD Sp (den Sp) Tryz.f134 2
theorem eq0 (c0_0 c1_0 : Int) : den Sp id [(V.ref 0 0), (V.ref 1 0)] [(Blk.cells T_int [(V.int .i64 c0_0)] false), (Blk.cells T_api_Errno [(V.int .i64 c1_0)] false)] (some none) =
    (some ⟨(Out.ret (V.tup [])), [(Blk.cells T_int [(V.int .i64 c0_0)] false), (Blk.cells T_api_Errno [(V.int .i64 c1_0)] false)], (some none)⟩) := (den_eq ..).trans (by kernel_rfl)
end check_checker_check_1
namespace check_checker_check_1
theorem eq1 (c0_0 c1_0 w_0 w_1 : Int) : den Sp id [(V.ref 0 0), (V.ref 1 0)] [(Blk.cells T_int [(V.int .i64 c0_0)] false), (Blk.cells T_api_Errno [(V.int .i64 c1_0)] false)] (some (some (V.iface T_check_given (V.agg [(V.int .i64 w_0), (V.int .i64 w_1)])))) =
    ((den Sp check_caught.id [(V.iface T_check_given (V.agg [(V.int .i64 w_0), (V.int .i64 w_1)]))] [] none)).bind (fun r7 => (Res.onRet r7 (fun v8 => (V.asAgg v8 2 (fun rd9 => (V.asInt (rd9 0) .i64 (fun n10 => (V.asInt (rd9 1) .i64 (fun n11 => (some ⟨(Out.ret (V.tup [])), [(Blk.cells T_int [(V.int .i64 n10)] false), (Blk.cells T_api_Errno [(V.int .i64 n11)] false)], (some none)⟩)))))))))) := (den_eq ..).trans (by kernel_rfl)
end check_checker_check_1
namespace check_Check
noncomputable abbrev e (p : List Nat) := ev Sp (den Sp) id Tryz.f48.ntmps (cAt (bodyOf Tryz.f48) p)
noncomputable abbrev cn (n0 : List Nat) := canon Sp id n0
noncomputable abbrev K : K := kFin Sp (den Sp) Tryz.f48 0
noncomputable def L1_1_1_0_1_0 (l0 : List (List V)) (i1 i2 : Int) (l3 l4 l5 : List (List V)) : Option Res := LP (e [1, 1, 1, 0, 1, 0, 0]) (cn [1001, 1002, 1003, 1006]) (kBlk 0 (kSeq (e [1, 1, 1, 1]) (K))) ([(1, (V.ref 1001 0)), (2, (V.ref 1002 0)), (3, (V.ref 1003 0)), (6, (V.ref 1006 0)), (20, (V.sl .no T_api_Proc l0)), (21, (V.int .i64 i1)), (22, (V.int .i64 i2))], ⟨[(1001, (Blk.cells T_api_Prog [(V.sl .no T_api_Proc l3)] false)), (1002, (Blk.cells T_check_Info [(V.sl (Tok.row 0) T_L_api_Var []), (V.sl (Tok.row 1) T_int [])] false)), (1003, (Blk.cells T_check_Place [(V.int .i64 (0 : Int)), (V.int .i64 (0 : Int))] false)), (1006, (Blk.cells T_check_Info [(V.sl (Tok.row 2) T_L_api_Var l4), (V.sl (Tok.row 3) T_int l5)] false))], [0, 1, 2, 3], [], [], none⟩)
theorem L1_1_1_0_1_0_eq (l0 : List (List V)) (i1 i2 : Int) (l3 l4 l5 : List (List V)) : L1_1_1_0_1_0 l0 i1 i2 l3 l4 l5 =
    (bif (decide (i2 < i1)) then (if (((0 : Int) ≤ i2) ∧ (i2 < (l0.length : Int))) then (V.asStr (List.getD (List.getD l0 (Int.toNat i2) []) 0 V.undef) (fun s17 => (V.asSl (List.getD (List.getD l0 (Int.toNat i2) []) 1 V.undef) T_api_Param (fun es18 => (V.asInt (List.getD (List.getD l0 (Int.toNat i2) []) 2 V.undef) .i64 (fun n19 => (V.asSl (List.getD (List.getD l0 (Int.toNat i2) []) 3 V.undef) T_api_Stmt (fun es20 => ((den Sp check_checker_check.id [(V.ref 0 0)] [(Blk.cells T_check_checker [(V.sl .no T_api_Var []), (V.int .i64 (0 : Int)), (V.sl .no T_api_Proc l3), (V.str s17), (V.sl .no T_api_Param es18), (V.int .i64 n19), (V.sl .no T_api_Stmt es20)] false)] none)).bind (fun r23 => (Blk.asCells (List.getD (Res.bl r23) 0 (Blk.cells T_n0 [] true)) T_check_checker 7 (fun rd24 => (V.asSl (rd24 0) T_api_Var (fun es25 => (V.asInt (rd24 1) .i64 (fun n26 => (V.asSl (rd24 2) T_api_Proc (fun es27 => (V.asStr (rd24 3) (fun s28 => (V.asSl (rd24 4) T_api_Param (fun es29 => (V.asInt (rd24 5) .i64 (fun n30 => (V.asSl (rd24 6) T_api_Stmt (fun es31 => (Res.onRet r23 (fun v32 => (V.asTup v32 2 (fun rd33 => (V.asInt (rd33 0) .i64 (fun n34 => (V.asInt (rd33 1) .i64 (fun n35 => (bif (n35 != (0 : Int)) then (some ⟨(Out.ret (V.tup [(V.agg [(V.sl .no T_L_api_Var []), (V.sl .no T_int [])]), (V.agg [(V.int .i64 i2), (V.int .i64 n34)]), (V.int .i64 n35)])), [], none⟩) else (if (((List.length l4) + (List.length [[(V.sl .no T_api_Var es25)]])) ≤ most) then ((den Sp check_count.id [(V.sl .no T_api_Stmt es20)] [] none)).bind (fun r39 => (Res.onRet r39 (fun v40 => (V.asInt v40 .i64 (fun n41 => (if (((List.length l5) + (List.length [[(V.int .i64 n41)]])) ≤ most) then (L1_1_1_0_1_0 l0 i1 (IntKind.wrap .i64 (i2 + (1 : Int))) l3 (l4 ++ [[(V.sl .no T_api_Var es25)]]) (l5 ++ [[(V.int .i64 n41)]])) else none)))))) else none))))))))))))))))))))))))))))))))))) else none) else (some ⟨(Out.ret (V.tup [(V.agg [(V.sl .no T_L_api_Var l4), (V.sl .no T_int l5)]), (V.agg [(V.int .i64 (0 : Int)), (V.int .i64 (0 : Int))]), (V.int .i64 (0 : Int))])), [], none⟩)) := (LP_eq ..).trans (by kernel_rfl)
theorem eq (a0_0 : (List (List V))) : den Sp id [(V.agg [(V.sl .no T_api_Proc a0_0)])] [] none =
    ((den Sp check_whole.id [(V.agg [(V.sl .no T_api_Proc a0_0)])] [] none)).bind (fun r3 => (Res.onRet r3 (fun v4 => (V.asInt v4 .i64 (fun n5 => (bif (n5 != (0 : Int)) then (some ⟨(Out.ret (V.tup [(V.agg [(V.sl .no T_L_api_Var []), (V.sl .no T_int [])]), (V.agg [(V.int .i64 (0 : Int)), (V.int .i64 (0 : Int))]), (V.int .i64 n5)])), [], none⟩) else (L1_1_1_0_1_0 a0_0 (a0_0.length : Int) (0 : Int) a0_0 [] []))))))) := (den_eq ..).trans (by kernel_rfl)
end check_Check
end Go.Proofs.YtmhnmelaodhemaaGreatDoor
namespace Go.Proofs.YtmhnmelaodhemaaGreatDoor
open Go Go.Proofs.Ab Go.Proofs.Px
set_option linter.unusedVariables false
set_option linter.unusedSimpArgs false
set_option maxRecDepth 100000
def runB (vs : List Vr) (ps : List Prc) (q : Prc) (r : Int × Int) : Option Res := some ⟨if r.2 = 0 then .ret (.tup []) else .pan (givenV r.1 r.2), [chkB vs r.1 ps q], none⟩
theorem stmts_is (vs : List Vr) (hl : vs.length ≤ 140737488351232) (ps : List Prc) (hps : ps.length ≤ 140737488351232) (q : Prc) : ∀ l : List Stm, (∀ s ∈ l, StmOk s) → ∀ m : Int, 0 ≤ m → m + (Stm.counts l : Int) ≤ 3000000 →
    den Sp check_checker_stmts.id [.ref 0 0, .sl .no T_api_Stmt (l.map Stm.v)] [chkB vs m ps q] none = runB vs ps q (runE (fun m s => stmtE vs m ps q s) m (Stm.flats l)) := by
  refine Stm.ind_list fun l ih hok m h0 h1 => ?_
  have hlen := Stm.counts_len l
  have e1 := fun m s hs => stmt_is vs hl m ps hps q s hs
  have key : ∀ i : Nat, i ≤ l.length → ∀ m : Int, 0 ≤ m → m + (Stm.counts (l.drop i) : Int) ≤ 3000000 → check_checker_stmts.L1_0 (l.map Stm.v) (l.length : Int) (i : Int) (vs.map Vr.v) m (ps.map Prc.v) (B q.name) (q.params.map Par.v) q.type (q.body.map Stm.v) =
      runB vs ps q (runE (fun m s => stmtE vs m ps q s) m (Stm.flats (l.drop i))) := by
    refine down (fun m _ _ => ?_) fun i hi ihi m g0 g1 => ?_
    · rw [check_checker_stmts.L1_0_eq]; simp [runB, runE, Stm.flats, chkB]
    · have hm := List.getElem_mem hi
      have ho := (hok _ hm).inv'
      rw [Stm.counts_drop hi, Stm.count_is] at g1
      have e2 := e1 (m + 1) l[i] ho.he
      rw [check_checker_stmts.L1_0_eq, Stm.flats_drop hi, Stm.flat_is, List.cons_append]
      simp only [runE]
      by_cases c1 : stmtE vs (m + 1) ps q l[i] = 0
      · have e3 := (ih _ hm).1 ho.hbs (m + 1) (by omega) (by omega)
        have r3 := runE_mark (fun m s => stmtE vs m ps q s) (Stm.flats l[i].body) (m + 1)
        rw [Stm.flats_len] at r3
        rw [List.append_assoc, runE_app]
        generalize runE (fun m s => stmtE vs m ps q s) (m + 1) (Stm.flats l[i].body) = r at e3 r3 ⊢
        obtain ⟨m2, x2⟩ := r
        by_cases c2 : x2 = 0
        · have r4 := r3.2.2 c2
          have e4 := (ih _ hm).2 ho.hls m2 (by omega) (by simp only at r4; omega)
          have r5 := runE_mark (fun m s => stmtE vs m ps q s) (Stm.flats l[i].els) m2
          rw [Stm.flats_len] at r5
          simp only [c2, ne_eq, not_true_eq_false, if_false]
          rw [runE_app]
          generalize runE (fun m s => stmtE vs m ps q s) m2 (Stm.flats l[i].els) = r at e4 r5 ⊢
          obtain ⟨m3, x3⟩ := r
          unfold runB outB chkB at *
          by_cases c3 : x3 = 0
          · have r6 := r5.2.2 c3
            have e5 := ihi m3 (by simp only at r4 r6; omega) (by simp only at r4 r6; omega)
            simp only [Int.natCast_add, Int.natCast_one] at e5
            subst c3 c2
            simp only [if_pos] at e3 e4
            simp (disch := first | omega | rfl | simp) [hi, wrap_in, e2, c1, e3, e4, e5]
          · subst c2
            simp only [if_pos] at e3
            simp (disch := first | omega | rfl | simp) [hi, wrap_in, e2, c1, e3, e4, c3, givenV]
        · unfold runB outB chkB at *
          simp (disch := first | omega | rfl | simp) [hi, wrap_in, e2, c1, e3, c2, givenV]
      · unfold runB outB chkB at *
        simp (disch := first | omega | rfl | simp) [hi, wrap_in, e2, c1, givenV]
  have h2 := key 0 (Nat.zero_le _) m h0 (by simpa using h1)
  unfold chkB
  rw [check_checker_stmts.eq]
  simpa using h2
theorem decl_step0 {l : List Stm} {i : Nat} (hi : i < l.length) (k1 : l[i].kind ≠ 1) (hl : l.length ≤ 1000000) (m last : Int) (acc D1 D2 : List Vr) (g0 : 0 ≤ m) (g1 : m + (l[i].count : Int) ≤ 3000000) (hacc : acc.length + l[i].count ≤ 1000000) (d1 : D1.length ≤ Stm.counts l[i].body) (d2 : D2.length ≤ Stm.counts l[i].els)
    (h1 : den Sp check_declared.id [.sl .no T_api_Stmt (l[i].body.map Stm.v), .int .i64 (m + 1)] [] none = some ⟨.ret (.sl .no T_api_Var (D1.map Vr.v)), [], none⟩)
    (h2 : den Sp check_declared.id [.sl .no T_api_Stmt (l[i].els.map Stm.v), .int .i64 (m + 1 + (Stm.counts l[i].body : Int))] [] none = some ⟨.ret (.sl .no T_api_Var (D2.map Vr.v)), [], none⟩) :
    check_declared.L1_1_1_0_1_0 m (acc.map Vr.v) last (l.map Stm.v) (l.length : Int) (i : Int) = check_declared.L1_1_1_0_1_0 (m + (l[i].count : Int)) ((acc ++ ((if l[i].kind = 1 then [varOf l[i] m last] else []) ++ (D1 ++ D2))).map Vr.v) last (l.map Stm.v) (l.length : Int) ((i + 1 : Nat) : Int) := by
  rw [Stm.count_is] at *
  have c1 := check_count_is l[i].body (by omega)
  have c2 := check_count_is l[i].els (by omega)
  rw [check_declared.L1_1_1_0_1_0_eq]
  simp (disch := omega) [hi, h1, h2, c1, c2, wrap_in, most_if, k1]
theorem decl_step1 {l : List Stm} {i : Nat} (hi : i < l.length) (k1 : l[i].kind = 1) (hl : l.length ≤ 1000000) (m last : Int) (acc D1 D2 : List Vr) (g0 : 0 ≤ m) (g1 : m + (l[i].count : Int) ≤ 3000000) (hacc : acc.length + l[i].count ≤ 1000000) (d1 : D1.length ≤ Stm.counts l[i].body) (d2 : D2.length ≤ Stm.counts l[i].els)
    (h1 : den Sp check_declared.id [.sl .no T_api_Stmt (l[i].body.map Stm.v), .int .i64 (m + 1)] [] none = some ⟨.ret (.sl .no T_api_Var (D1.map Vr.v)), [], none⟩)
    (h2 : den Sp check_declared.id [.sl .no T_api_Stmt (l[i].els.map Stm.v), .int .i64 (m + 1 + (Stm.counts l[i].body : Int))] [] none = some ⟨.ret (.sl .no T_api_Var (D2.map Vr.v)), [], none⟩) :
    check_declared.L1_1_1_0_1_0 m (acc.map Vr.v) last (l.map Stm.v) (l.length : Int) (i : Int) = check_declared.L1_1_1_0_1_0 (m + (l[i].count : Int)) ((acc ++ ((if l[i].kind = 1 then [varOf l[i] m last] else []) ++ (D1 ++ D2))).map Vr.v) last (l.map Stm.v) (l.length : Int) ((i + 1 : Nat) : Int) := by
  rw [Stm.count_is] at *
  have c1 := check_count_is l[i].body (by omega)
  have c2 := check_count_is l[i].els (by omega)
  rw [check_declared.L1_1_1_0_1_0_eq]
  unfold varOf
  by_cases k2 : l[i].num = -1
  · simp (disch := omega) [hi, h1, h2, c1, c2, wrap_in, most_if, k1, k2, Vr.v]
  · simp (disch := omega) [hi, h1, h2, c1, c2, wrap_in, most_if, k1, k2, Vr.v]
theorem decl_step {l : List Stm} {i : Nat} (hi : i < l.length) (hl : l.length ≤ 1000000) (m last : Int) (acc D1 D2 : List Vr) (g0 : 0 ≤ m) (g1 : m + (l[i].count : Int) ≤ 3000000) (hacc : acc.length + l[i].count ≤ 1000000) (d1 : D1.length ≤ Stm.counts l[i].body) (d2 : D2.length ≤ Stm.counts l[i].els)
    (h1 : den Sp check_declared.id [.sl .no T_api_Stmt (l[i].body.map Stm.v), .int .i64 (m + 1)] [] none = some ⟨.ret (.sl .no T_api_Var (D1.map Vr.v)), [], none⟩)
    (h2 : den Sp check_declared.id [.sl .no T_api_Stmt (l[i].els.map Stm.v), .int .i64 (m + 1 + (Stm.counts l[i].body : Int))] [] none = some ⟨.ret (.sl .no T_api_Var (D2.map Vr.v)), [], none⟩) :
    check_declared.L1_1_1_0_1_0 m (acc.map Vr.v) last (l.map Stm.v) (l.length : Int) (i : Int) = check_declared.L1_1_1_0_1_0 (m + (l[i].count : Int)) ((acc ++ ((if l[i].kind = 1 then [varOf l[i] m last] else []) ++ (D1 ++ D2))).map Vr.v) last (l.map Stm.v) (l.length : Int) ((i + 1 : Nat) : Int) := by
  by_cases k1 : l[i].kind = 1
  · exact decl_step1 hi k1 hl m last acc D1 D2 g0 g1 hacc d1 d2 h1 h2
  · exact decl_step0 hi k1 hl m last acc D1 D2 g0 g1 hacc d1 d2 h1 h2
theorem check_declared_is : ∀ l : List Stm, Stm.counts l ≤ 1000000 → ∀ m : Int, 0 ≤ m → m + (Stm.counts l : Int) ≤ 3000000 → den Sp check_declared.id [.sl .no T_api_Stmt (l.map Stm.v), .int .i64 m] [] none = some ⟨.ret (.sl .no T_api_Var ((declP l m).map Vr.v)), [], none⟩ := by
  refine Stm.ind_list fun l ih hc m g0 g1 => ?_
  have hlen := Stm.counts_len l
  have key : ∀ i : Nat, i ≤ l.length → ∀ (m : Int) (acc : List Vr), 0 ≤ m → m + (Stm.counts (l.drop i) : Int) ≤ 3000000 → acc.length + Stm.counts (l.drop i) ≤ 1000000 → ∀ last : Int,
      check_declared.L1_1_1_0_1_0 m (acc.map Vr.v) last (l.map Stm.v) (l.length : Int) (i : Int) = some ⟨.ret (.sl .no T_api_Var ((acc ++ varsOf (Stm.items (l.drop i) m last) m).map Vr.v)), [], none⟩ := by
    refine down (fun m acc _ _ _ last => ?_) fun i hi ihi m acc hn h hacc last => ?_
    · rw [check_declared.L1_1_1_0_1_0_eq]; simp [Stm.items, varsOf]
    · rw [Stm.counts_drop hi, Stm.count_is] at h hacc
      have hm := List.getElem_mem hi
      have h1 := (ih _ hm).1 (by omega) (m + 1) (by omega) (by omega)
      have h2 := (ih _ hm).2 (by omega) (m + 1 + (Stm.counts l[i].body : Int)) (by omega) (by omega)
      have v1 := varsOf_len (Stm.items l[i].body (m + 1) (m + 1 + (Stm.counts l[i].body : Int) - 1)) (m + 1)
      have v2 := varsOf_len (Stm.items l[i].els (m + 1 + (Stm.counts l[i].body : Int)) (m + 1 + (Stm.counts l[i].body : Int) + (Stm.counts l[i].els : Int) - 1)) (m + 1 + (Stm.counts l[i].body : Int))
      rw [Stm.items_len] at v1 v2
      have d1 : declP l[i].body (m + 1) = varsOf (Stm.items l[i].body (m + 1) (m + 1 + (Stm.counts l[i].body : Int) - 1)) (m + 1) := rfl
      have d2 : declP l[i].els (m + 1 + (Stm.counts l[i].body : Int)) = varsOf (Stm.items l[i].els (m + 1 + (Stm.counts l[i].body : Int)) (m + 1 + (Stm.counts l[i].body : Int) + (Stm.counts l[i].els : Int) - 1)) (m + 1 + (Stm.counts l[i].body : Int)) := rfl
      rw [← d1] at v1
      rw [← d2] at v2
      rw [Stm.items_drop hi, Stm.item_is, List.cons_append, varsOf, varsOf_app, varsOf_app, ← d1, Stm.items_len, ← d2, List.length_append, Stm.items_len, Stm.items_len]
      have e3 : m + 1 + ((Stm.counts l[i].body + Stm.counts l[i].els : Nat) : Int) = m + (l[i].count : Int) := by rw [Stm.count_is]; omega
      rw [e3]
      generalize declP l[i].body (m + 1) = D1 at *
      generalize declP l[i].els (m + 1 + (Stm.counts l[i].body : Int)) = D2 at *
      have hst := decl_step hi (by omega) m last acc D1 D2 hn (by rw [Stm.count_is]; omega) (by rw [Stm.count_is]; omega) v1 v2 h1 h2
      have h3 := ihi (m + (l[i].count : Int)) (acc ++ ((if l[i].kind = 1 then [varOf l[i] m last] else []) ++ (D1 ++ D2))) (by omega) (by rw [Stm.count_is]; omega) (by simp only [List.length_append]; split <;> simp <;> omega) last
      refine (hst.trans h3).trans ?_
      by_cases k1 : l[i].kind = 1 <;> simp [k1]
  have h0 := key 0 (Nat.zero_le _) m [] g0 (by simpa using g1) (by simpa using hc) (m + (Stm.counts l : Int) - 1)
  rw [check_declared.eq, check_count_is l hc]
  simp (disch := omega) [wrap_in]
  simpa [declP] using h0
end Go.Proofs.YtmhnmelaodhemaaGreatDoor
namespace Go.Proofs.YtmhnmelaodhemaaGreatDoor
open Go Go.Proofs.Ab Go.Proofs.Px
set_option linter.unusedVariables false
set_option linter.unusedSimpArgs false
set_option maxRecDepth 100000
theorem check_vars_is (q : Prc) (hp : q.params.length ≤ 1000000) (hc : Stm.counts q.body ≤ 1000000) : den Sp check_vars.id [.agg q.v] [] none = some ⟨.ret (.sl .no T_api_Var ((varsP q).map Vr.v)), [], none⟩ := by
  obtain ⟨nm, ps, t, l⟩ := q
  simp only at hp hc
  have c1 := check_count_is l hc
  have c2 := check_declared_is l hc 1 (by omega) (by omega)
  have c3 := declP_len l 1
  have key : ∀ i : Nat, i ≤ ps.length → ∀ acc : List Vr, acc.length + (ps.length - i) ≤ 1000000 → check_vars.L1_1_0_1_0 (acc.map Vr.v) (ps.map Par.v) (ps.length : Int) (i : Int) (B nm) (ps.map Par.v) t (l.map Stm.v) =
      some ⟨.ret (.sl .no T_api_Var ((acc ++ (parVars ((Stm.counts l : Int) + 1) (ps.drop i) ++ declP l 1)).map Vr.v)), [], none⟩ := by
    refine down (fun acc ha => ?_) fun i hi ih acc ha => ?_
    · rw [check_vars.L1_1_0_1_0_eq]; simp (disch := omega) [c2, most_if, parVars]
    · have h3 := ih (acc ++ [⟨ps[i].name, ps[i].type, 0, 0, (Stm.counts l : Int) + 1⟩]) (by simp; omega)
      rw [check_vars.L1_1_0_1_0_eq, List.drop_eq_getElem_cons hi, parVars]
      simp (disch := omega) [hi, c1, wrap_in, most_if]
      simp [Vr.v] at h3 ⊢
      exact h3
  rw [Prc.v_mk, check_vars.eq]
  simpa [varsP] using key 0 (Nat.zero_le _) [] (by simpa using hp)
theorem check_ends_is : ∀ l : List Stm, l.length ≤ 140737488351232 → (∀ s ∈ l, StmOk s) → den Sp check_ends.id [.sl .no T_api_Stmt (l.map Stm.v)] [] none = some ⟨.ret (.bool (Stm.endss l)), [], none⟩ := by
  refine Stm.ind_list fun l ih hl hok => ?_
  have key : ∀ i : Nat, i ≤ l.length → check_ends.L1_0_1_0 (l.map Stm.v) (l.length : Int) (i : Int) = some ⟨.ret (.bool (Stm.endss (l.drop i))), [], none⟩ := by
    refine down ?_ fun i hi ihi => ?_
    · rw [check_ends.L1_0_1_0_eq]; simp [Stm.endss]
    · have hm := List.getElem_mem hi
      have ho := (hok _ hm).inv'
      have h1 := (ih _ hm).1 ho.hb ho.hbs
      have h2 := (ih _ hm).2 ho.hl ho.hls
      simp only [Int.natCast_add, Int.natCast_one] at ihi
      rw [check_ends.L1_0_1_0_eq, List.drop_eq_getElem_cons hi, Stm.endss, Stm.ends_is]
      by_cases k7 : l[i].kind = 7
      · simp (disch := omega) [hi, k7]
      · by_cases k4 : l[i].kind = 4
        · cases hb : Stm.endss l[i].body <;> cases hl : Stm.endss l[i].els <;> rw [hb] at h1 <;> rw [hl] at h2 <;> simp (disch := omega) [hi, k4, h1, h2, wrap_in, ihi]
        · simp (disch := omega) [hi, k7, k4, wrap_in, ihi]
  rw [check_ends.eq]
  simpa using key 0 (Nat.zero_le _)
theorem check_whole_is (ps : List Prc) (hps : ps.length ≤ 140737488351232) : den Sp check_whole.id [.agg [.sl .no T_api_Proc (ps.map Prc.v)]] [] none = some ⟨.ret (.int .i64 (wholeE ps)), [], none⟩ := by
  have second : ∀ (i2 : Int) (m : List (V × V)) (i : Nat), i ≤ ps.length → check_whole.L1_1_1_1_0_1_0 (ps.map Prc.v) (ps.length : Int) i2 (ps.map Prc.v) (ps.length : Int) (i : Int) (ps.map Prc.v) m = some ⟨.ret (.int .i64 (if (ps.drop i).any mainP then 0 else 42)), [], none⟩ := by
    intro i2 m
    refine down ?_ fun i hi ih => ?_
    · rw [check_whole.L1_1_1_1_0_1_0_eq]; simp
    · simp only [Int.natCast_add, Int.natCast_one] at ih
      rw [check_whole.L1_1_1_1_0_1_0_eq, List.drop_eq_getElem_cons hi, List.any_cons]
      unfold mainP at ih ⊢
      by_cases c1 : ps[i].name = [109, 97, 105, 110] <;> by_cases c2 : ps[i].params = [] <;> by_cases c3 : ps[i].type = 0 <;> simp (disch := omega) [hi, c1, c2, c3, wrap_in, ih]
  have first : ∀ i : Nat, i ≤ ps.length → ∀ seen : List (List UInt8), check_whole.L1_1_1_0_1_0 (ps.map Prc.v) (ps.length : Int) (i : Int) (ps.map Prc.v) (seenM seen) = some ⟨.ret (.int .i64 (if dupP ((ps.drop i).map (·.name)) seen then 40 else if ps.any mainP then 0 else 42)), [], none⟩ := by
    refine down (fun seen => ?_) fun i hi ih seen => ?_
    · have := second (ps.length : Int) (seenM seen) 0 (Nat.zero_le _)
      rw [check_whole.L1_1_1_0_1_0_eq]; simpa [dupP] using this
    · simp only [Int.natCast_add, Int.natCast_one] at ih
      rw [check_whole.L1_1_1_0_1_0_eq, List.drop_eq_getElem_cons hi, List.map_cons, dupP]
      by_cases c : ps[i].name ∈ seen
      · simp (disch := omega) [hi, seen_get, c]
      · simp (disch := omega) [hi, seen_get, c, seen_set _ _ c, wrap_in, ih]
  rw [check_whole.eq]
  unfold wholeE
  by_cases c : 40 < ps.length
  · simp [c, show (40 : Int) < (ps.length : Int) by omega]
  · have := first 0 (Nat.zero_le _) []
    rw [show seenM [] = [] from rfl] at this
    simpa [c, show ¬ (40 : Int) < (ps.length : Int) by omega] using this
theorem caught_is (m e : Int) : den Sp check_checker_check_1.id [.ref 0 0, .ref 1 0] [.cells T_int [.int .i64 0] false, .cells T_api_Errno [.int .i64 0] false] (some (some (givenV m e))) = some ⟨.ret (.tup []), [.cells T_int [.int .i64 m] false, .cells T_api_Errno [.int .i64 e] false], some none⟩ := by
  unfold givenV
  rw [check_checker_check_1.eq1, check_caught.eq]; simp
theorem check_is (ps : List Prc) (hps : ps.length ≤ 140737488351232) (q : Prc) (hq : PrcOk q) (hp : q.params.length ≤ 1000000) (hc : Stm.counts q.body ≤ 1000000) :
    ∃ m, den Sp check_checker_check.id [.ref 0 0] [chkB [] 0 ps q] none = some ⟨.ret (.tup [.int .i64 (procE ps q).1, .int .i64 (procE ps q).2]), [chkB (varsP q) m ps q], none⟩ := by
  have n1 := need_true (varsP q)
  have n2 := need_false (varsP q)
  have v1 := check_vars_is q hp hc
  have vl : (varsP q).length ≤ 3000000 := by
    have := declP_len q.body 1
    unfold varsP
    rw [List.length_append, parVars_len]; omega
  have st := stmts_is (varsP q) (by omega) ps hps q q.body hq.body.2 0 (by omega) (by omega)
  have en := check_ends_is q.body hq.body.1 hq.body.2
  have c0 := fun a b => check_checker_check_1.eq0 a b
  have c1 := caught_is
  have rm := runE_mark (fun m s => stmtE (varsP q) m ps q s) (Stm.flats q.body) 0
  rw [Stm.flats_len] at rm
  unfold procE
  generalize hr : runE (fun m s => stmtE (varsP q) m ps q s) 0 (Stm.flats q.body) = r at st rm ⊢
  unfold givenV at c1
  have key : ∀ i : Nat, i ≤ (varsP q).length → ∀ seen : List (List UInt8), ∃ m, check_checker_check.L1_1_1_1_1_0_1_0 ((varsP q).map Vr.v) ((varsP q).length : Int) (i : Int) ((varsP q).map Vr.v) 0 (ps.map Prc.v) (B q.name) (q.params.map Par.v) q.type (q.body.map Stm.v) (seenM seen) =
      some ⟨.ret (.tup (if dupP (((varsP q).drop i).map (·.name)) seen then [.int .i64 0, .int .i64 40] else if r.2 ≠ 0 then [.int .i64 r.1, .int .i64 r.2] else if q.type = 0 ∨ Stm.endss q.body = true then [.int .i64 0, .int .i64 0] else [.int .i64 (r.1 + 1), .int .i64 43])), [chkB (varsP q) m ps q], none⟩ := by
    refine down (fun seen => ?_) fun i hi ih seen => ?_
    · rw [check_checker_check.L1_1_1_1_1_0_1_0_eq]
      unfold runB chkB namesB at *
      obtain ⟨m2, x2⟩ := r
      by_cases e2 : x2 = 0
      · subst e2
        have rm := rm.2.2 rfl
        simp only at rm
        simp only [if_pos] at st
        have hw : IntKind.wrap IntKind.i64 (m2 + 1) = m2 + 1 := wrap_in (by omega) (by omega)
        by_cases t0 : q.type = 0
        · refine ⟨m2 + 1, ?_⟩
          rw [t0] at st ⊢
          simp [dupP, st, n1, c0, hw]
        · refine ⟨m2 + 1, ?_⟩
          cases he : Stm.endss q.body with
          | true =>
            rw [he] at en
            simp [dupP, st, t0, n1, c0, en, hw]
          | false =>
            rw [he] at en
            simp [dupP, st, t0, n2, c0, en, givenV, c1, hw]
      · refine ⟨m2, ?_⟩
        simp [dupP, st, e2, givenV, c1]
    · rw [List.drop_eq_getElem_cons hi, List.map_cons, dupP]
      simp only [Int.natCast_add, Int.natCast_one] at ih
      by_cases c : (varsP q)[i].name ∈ seen
      · refine ⟨0, ?_⟩
        rw [check_checker_check.L1_1_1_1_1_0_1_0_eq]
        unfold chkB namesB at *
        simp [hi, seen_get, c, n2, givenV, c1]
      · obtain ⟨m, hm⟩ := ih (seen ++ [(varsP q)[i].name])
        refine ⟨m, ?_⟩
        rw [check_checker_check.L1_1_1_1_1_0_1_0_eq]
        unfold chkB namesB at *
        simp (disch := omega) [hi, seen_get, c, seen_set _ _ c, wrap_in, n1]
        simp [c, hm]
  rw [Prc.v] at v1
  by_cases d1 : 8 < q.params.length
  · refine ⟨0, ?_⟩
    unfold chkB namesB at *
    rw [List.map_nil, check_checker_check.eq, v1]
    simp [d1, show ¬ (q.params.length : Int) ≤ 8 by omega, n2, givenV, c1]
  · by_cases d2 : 60 < (varsP q).length
    · refine ⟨0, ?_⟩
      unfold chkB namesB at *
      rw [List.map_nil, check_checker_check.eq, v1]
      simp [d1, d2, show (q.params.length : Int) ≤ 8 by omega, show ¬ ((varsP q).length : Int) ≤ 60 by omega, n2, givenV, c1]
    · obtain ⟨m, hm⟩ := key 0 (Nat.zero_le _) []
      refine ⟨m, ?_⟩
      rw [List.drop_zero, show seenM [] = [] from rfl] at hm
      unfold chkB namesB at *
      rw [List.map_nil, check_checker_check.eq, v1]
      simp only [Int.natCast_zero] at hm
      simp [d1, d2, show (q.params.length : Int) ≤ 8 by omega, show ((varsP q).length : Int) ≤ 60 by omega, n1, hm]
      by_cases g1 : dupP ((varsP q).map (·.name)) [] = true
      · simp [g1]
      · simp only [if_neg g1]
        by_cases g2 : r.2 = 0
        · by_cases g3 : q.type = 0 ∨ Stm.endss q.body = true <;> simp [g2, g3]
        · simp [g2]
end Go.Proofs.YtmhnmelaodhemaaGreatDoor
namespace Go.Proofs.YtmhnmelaodhemaaGreatDoor
open Go Go.Proofs.Ab Go.Proofs.Px
set_option linter.unusedVariables false
set_option linter.unusedSimpArgs false
set_option maxRecDepth 100000
theorem check_Check_is (ps : List Prc) (hok : ∀ q ∈ ps, PrcOk q) (hs : Prc.sizes ps ≤ 1000000) : den Sp check_Check.id [.agg [.sl .no T_api_Proc (ps.map Prc.v)]] [] none = checkR ps := by
  have hlen := Prc.sizes_len ps
  have hw := check_whole_is ps (by omega)
  unfold checkR checkP
  rw [check_Check.eq, hw]
  by_cases hw0 : wholeE ps = 0
  · have hq : ∀ q ∈ ps, q.params.length ≤ 1000000 ∧ Stm.counts q.body ≤ 1000000 := fun q h => by
      have h1 := Prc.size_mem h
      have h2 := Stm.counts_sizes q.body
      unfold Prc.size at h1
      omega
    have key : ∀ i : Nat, i ≤ ps.length → ∀ (vs : List (List Vr)) (ms : List Int), vs.length + (ps.length - i) ≤ 1000000 → ms.length + (ps.length - i) ≤ 1000000 → check_Check.L1_1_1_0_1_0 (ps.map Prc.v) (ps.length : Int) (i : Int) (ps.map Prc.v) (vrows vs) (iv ms) =
        match procsE ps (ps.drop i) (i : Int) with
        | some r => some ⟨.ret (.tup [infoV [] [], .agg [.int .i64 r.1, .int .i64 r.2.1], .int .i64 r.2.2]), [], none⟩
        | none => some ⟨.ret (.tup [infoV (vs ++ (ps.drop i).map varsP) (ms ++ (ps.drop i).map fun q => (Stm.counts q.body : Int)), .agg [.int .i64 0, .int .i64 0], .int .i64 0]), [], none⟩ := by
      refine down (fun vs ms _ _ => ?_) fun i hi ih vs ms hv hm => ?_
      · rw [check_Check.L1_1_1_0_1_0_eq]; simp [procsE, infoV]
      · have hmem := List.getElem_mem hi
        obtain ⟨m, hc⟩ := check_is ps (by omega) ps[i] (hok _ hmem) (hq _ hmem).1 (hq _ hmem).2
        have c1 := check_count_is ps[i].body (hq _ hmem).2
        rw [check_Check.L1_1_1_0_1_0_eq, List.drop_eq_getElem_cons hi, procsE]
        unfold chkB at hc
        rw [List.map_nil] at hc
        by_cases e0 : (procE ps ps[i]).2 = 0
        · have h3 := ih (vs ++ [varsP ps[i]]) (ms ++ [(Stm.counts ps[i].body : Int)]) (by simp; omega) (by simp; omega)
          simp only [Int.natCast_add, Int.natCast_one] at h3
          have e1 : vrows (vs ++ [varsP ps[i]]) = vrows vs ++ [[.sl .no T_api_Var ((varsP ps[i]).map Vr.v)]] := by simp [vrows]
          have e2 : iv (ms ++ [(Stm.counts ps[i].body : Int)]) = iv ms ++ [[.int .i64 (Stm.counts ps[i].body : Int)]] := by simp [iv]
          rw [e1, e2] at h3
          simp (disch := first | omega | rfl | simp) [hi, hc, e0, c1, most_if, wrap_in, List.getElem?_cons_zero]
          rw [h3]
          cases procsE ps (List.drop (i + 1) ps) ((i : Int) + 1) 
          · simp only [List.map_cons, List.append_assoc, List.singleton_append]
            rw [← List.map_drop, ← List.map_drop, List.drop_eq_getElem_cons hi, List.map_cons, List.map_cons]
          · rfl
        · simp (disch := first | omega | rfl | simp) [hi, hc, e0, infoV, List.getElem?_cons_zero]
          rfl
    have h0 := key 0 (Nat.zero_le _) [] [] (by simp; omega) (by simp; omega)
    rw [show vrows [] = [] from rfl] at h0
    simp only [hw0, ne_eq, not_true_eq_false, if_false, List.drop_zero, Int.natCast_zero, List.nil_append] at h0 ⊢
    cases hp : procsE ps ps 0 with
    | none =>
      rw [hp] at h0
      simpa using h0
    | some r =>
      have hr := procsE_ne hp
      rw [hp] at h0
      simp only [Option.getD_some, if_neg hr]
      simpa using h0
  · simp [hw0, infoV]
    rfl
end Go.Proofs.YtmhnmelaodhemaaGreatDoor
namespace Go.Proofs.YtmhnmelaodhemaaGreatDoor
open Go Go.Proofs.Ab
set_option maxRecDepth 100000
set_option linter.unusedVariables false
namespace decl_judge_proc
noncomputable abbrev e (p : List Nat) := ev Sp (den Sp) id Tryz.f140.ntmps (cAt (bodyOf Tryz.f140) p)
noncomputable abbrev cn (n0 : List Nat) := canon Sp id n0
noncomputable abbrev K : K := kFin Sp (den Sp) Tryz.f140 1
noncomputable def L1_1_0_1_0 (s0 : ByteArray) (l1 : List (List V)) (i2 i3 : Int) (l4 l5 l6 l7 l8 l9 l10 l11 l12 l13 l14 : List (List V)) : Option Res := LP (e [1, 1, 0, 1, 0, 0]) (cn [0]) (kBlk 0 (kSeq (e [1, 1, 1]) (K))) ([(2, (V.str s0)), (21, (V.sl .no T_api_Proc l1)), (22, (V.int .i64 i2)), (23, (V.int .i64 i3))], ⟨[(0, (Blk.cells T_decl_judge [(V.sl .no T_api_Pair l4), (V.sl .no T_api_Pair l5), (V.sl .no T_decl_Keep l6), (V.sl .no T_decl_Break l7), (V.sl .no T_decl_Watch l8), (V.sl .no T_api_Proc l9), (V.sl .no T_api_Proc l10), (V.sl .no T_L_api_Var l11), (V.sl .no T_int l12), (V.sl .no T_L_api_Var l13), (V.sl .no T_int l14)] false))], [], [], [], none⟩)
theorem L1_1_0_1_0_eq (s0 : ByteArray) (l1 : List (List V)) (i2 i3 : Int) (l4 l5 l6 l7 l8 l9 l10 l11 l12 l13 l14 : List (List V)) : L1_1_0_1_0 s0 l1 i2 i3 l4 l5 l6 l7 l8 l9 l10 l11 l12 l13 l14 =
    (bif (decide (i3 < i2)) then (if (((0 : Int) ≤ i3) ∧ (i3 < (l1.length : Int))) then (V.asStr (List.getD (List.getD l1 (Int.toNat i3) []) 0 V.undef) (fun s33 => (V.asSl (List.getD (List.getD l1 (Int.toNat i3) []) 1 V.undef) T_api_Param (fun es34 => (V.asInt (List.getD (List.getD l1 (Int.toNat i3) []) 2 V.undef) .i64 (fun n35 => (V.asSl (List.getD (List.getD l1 (Int.toNat i3) []) 3 V.undef) T_api_Stmt (fun es36 => (bif (decide (s33 = s0)) then (some ⟨(Out.ret (V.int .i64 i3)), [(Blk.cells T_decl_judge [(V.sl .no T_api_Pair l4), (V.sl .no T_api_Pair l5), (V.sl .no T_decl_Keep l6), (V.sl .no T_decl_Break l7), (V.sl .no T_decl_Watch l8), (V.sl .no T_api_Proc l9), (V.sl .no T_api_Proc l10), (V.sl .no T_L_api_Var l11), (V.sl .no T_int l12), (V.sl .no T_L_api_Var l13), (V.sl .no T_int l14)] false)], none⟩) else (L1_1_0_1_0 s0 l1 i2 (IntKind.wrap .i64 (i3 + (1 : Int))) l4 l5 l6 l7 l8 l9 l10 l11 l12 l13 l14)))))))))) else none) else (some ⟨(Out.ret (V.int .i64 (Neg.neg (1 : Int)))), [(Blk.cells T_decl_judge [(V.sl .no T_api_Pair l4), (V.sl .no T_api_Pair l5), (V.sl .no T_decl_Keep l6), (V.sl .no T_decl_Break l7), (V.sl .no T_decl_Watch l8), (V.sl .no T_api_Proc l9), (V.sl .no T_api_Proc l10), (V.sl .no T_L_api_Var l11), (V.sl .no T_int l12), (V.sl .no T_L_api_Var l13), (V.sl .no T_int l14)] false)], none⟩)) := (LP_eq ..).trans (by kernel_rfl)
theorem eq (m0_0 m0_1 m0_2 m0_3 m0_4 m0_5 m0_6 m0_7 m0_8 m0_9 m0_10 : List (List V)) (a1 : Int) (a2 : ByteArray) : den Sp id [(V.ref 0 0), (V.int .i64 a1), (V.str a2)] [(Blk.cells T_decl_judge [(V.sl .no T_api_Pair m0_0), (V.sl .no T_api_Pair m0_1), (V.sl .no T_decl_Keep m0_2), (V.sl .no T_decl_Break m0_3), (V.sl .no T_decl_Watch m0_4), (V.sl .no T_api_Proc m0_5), (V.sl .no T_api_Proc m0_6), (V.sl .no T_L_api_Var m0_7), (V.sl .no T_int m0_8), (V.sl .no T_L_api_Var m0_9), (V.sl .no T_int m0_10)] false)] none =
    (bif (decide (a1 < (0 : Int))) then (some ⟨(Out.ret (V.int .i64 (Neg.neg (1 : Int)))), [(Blk.cells T_decl_judge [(V.sl .no T_api_Pair m0_0), (V.sl .no T_api_Pair m0_1), (V.sl .no T_decl_Keep m0_2), (V.sl .no T_decl_Break m0_3), (V.sl .no T_decl_Watch m0_4), (V.sl .no T_api_Proc m0_5), (V.sl .no T_api_Proc m0_6), (V.sl .no T_L_api_Var m0_7), (V.sl .no T_int m0_8), (V.sl .no T_L_api_Var m0_9), (V.sl .no T_int m0_10)] false)], none⟩) else (bif (decide (a1 > (1 : Int))) then (some ⟨(Out.ret (V.int .i64 (Neg.neg (1 : Int)))), [(Blk.cells T_decl_judge [(V.sl .no T_api_Pair m0_0), (V.sl .no T_api_Pair m0_1), (V.sl .no T_decl_Keep m0_2), (V.sl .no T_decl_Break m0_3), (V.sl .no T_decl_Watch m0_4), (V.sl .no T_api_Proc m0_5), (V.sl .no T_api_Proc m0_6), (V.sl .no T_L_api_Var m0_7), (V.sl .no T_int m0_8), (V.sl .no T_L_api_Var m0_9), (V.sl .no T_int m0_10)] false)], none⟩) else (if (a1 = ((1 : Nat) : Int)) then (L1_1_0_1_0 a2 m0_6 (m0_6.length : Int) (0 : Int) m0_0 m0_1 m0_2 m0_3 m0_4 m0_5 m0_6 m0_7 m0_8 m0_9 m0_10) else (if (a1 = ((0 : Nat) : Int)) then (L1_1_0_1_0 a2 m0_5 (m0_5.length : Int) (0 : Int) m0_0 m0_1 m0_2 m0_3 m0_4 m0_5 m0_6 m0_7 m0_8 m0_9 m0_10) else none)))) := (den_eq ..).trans (by kernel_rfl)
end decl_judge_proc
namespace decl_judge_variable
noncomputable abbrev e (p : List Nat) := ev Sp (den Sp) id Tryz.f141.ntmps (cAt (bodyOf Tryz.f141) p)
noncomputable abbrev cn (n0 : List Nat) := canon Sp id n0
noncomputable abbrev K : K := kFin Sp (den Sp) Tryz.f141 1
noncomputable def L1_0_1_1_0_1_0 (s0 : ByteArray) (l1 : List (List V)) (i2 i3 : Int) (l4 l5 l6 l7 l8 l9 l10 l11 l12 l13 l14 : List (List V)) : Option Res := LP (e [1, 0, 1, 1, 0, 1, 0, 0]) (cn [0, 1008]) (kBlk 0 (kSeq (e [1, 1]) (K))) ([(3, (V.str s0)), (8, (V.ref 1008 0)), (28, (V.sl .no T_api_Var l1)), (29, (V.int .i64 i2)), (30, (V.int .i64 i3))], ⟨[(0, (Blk.cells T_decl_judge [(V.sl .no T_api_Pair l4), (V.sl .no T_api_Pair l5), (V.sl .no T_decl_Keep l6), (V.sl .no T_decl_Break l7), (V.sl .no T_decl_Watch l8), (V.sl .no T_api_Proc l9), (V.sl .no T_api_Proc l10), (V.sl .no T_L_api_Var l11), (V.sl .no T_int l12), (V.sl .no T_L_api_Var l13), (V.sl .no T_int l14)] false)), (1008, (Blk.cells T_api_Var [(V.str (ByteArray.mk #[])), (V.int .i64 (0 : Int)), (V.int .i64 (0 : Int)), (V.int .i64 (0 : Int)), (V.int .i64 (0 : Int))] false))], [], [], [], none⟩)
theorem L1_0_1_1_0_1_0_eq (s0 : ByteArray) (l1 : List (List V)) (i2 i3 : Int) (l4 l5 l6 l7 l8 l9 l10 l11 l12 l13 l14 : List (List V)) : L1_0_1_1_0_1_0 s0 l1 i2 i3 l4 l5 l6 l7 l8 l9 l10 l11 l12 l13 l14 =
    (bif (decide (i3 < i2)) then (if (((0 : Int) ≤ i3) ∧ (i3 < (l1.length : Int))) then (V.asStr (List.getD (List.getD l1 (Int.toNat i3) []) 0 V.undef) (fun s51 => (V.asInt (List.getD (List.getD l1 (Int.toNat i3) []) 1 V.undef) .i64 (fun n52 => (V.asInt (List.getD (List.getD l1 (Int.toNat i3) []) 2 V.undef) .i64 (fun n53 => (V.asInt (List.getD (List.getD l1 (Int.toNat i3) []) 3 V.undef) .i64 (fun n54 => (V.asInt (List.getD (List.getD l1 (Int.toNat i3) []) 4 V.undef) .i64 (fun n55 => (bif (decide (s51 = s0)) then (some ⟨(Out.ret (V.tup [(V.agg [(V.str s51), (V.int .i64 n52), (V.int .i64 n53), (V.int .i64 n54), (V.int .i64 n55)]), (V.bool true)])), [(Blk.cells T_decl_judge [(V.sl .no T_api_Pair l4), (V.sl .no T_api_Pair l5), (V.sl .no T_decl_Keep l6), (V.sl .no T_decl_Break l7), (V.sl .no T_decl_Watch l8), (V.sl .no T_api_Proc l9), (V.sl .no T_api_Proc l10), (V.sl .no T_L_api_Var l11), (V.sl .no T_int l12), (V.sl .no T_L_api_Var l13), (V.sl .no T_int l14)] false)], none⟩) else (L1_0_1_1_0_1_0 s0 l1 i2 (IntKind.wrap .i64 (i3 + (1 : Int))) l4 l5 l6 l7 l8 l9 l10 l11 l12 l13 l14)))))))))))) else none) else (some ⟨(Out.ret (V.tup [(V.agg [(V.str (ByteArray.mk #[])), (V.int .i64 (0 : Int)), (V.int .i64 (0 : Int)), (V.int .i64 (0 : Int)), (V.int .i64 (0 : Int))]), (V.bool false)])), [(Blk.cells T_decl_judge [(V.sl .no T_api_Pair l4), (V.sl .no T_api_Pair l5), (V.sl .no T_decl_Keep l6), (V.sl .no T_decl_Break l7), (V.sl .no T_decl_Watch l8), (V.sl .no T_api_Proc l9), (V.sl .no T_api_Proc l10), (V.sl .no T_L_api_Var l11), (V.sl .no T_int l12), (V.sl .no T_L_api_Var l13), (V.sl .no T_int l14)] false)], none⟩)) := (LP_eq ..).trans (by kernel_rfl)
theorem eq (m0_0 m0_1 m0_2 m0_3 m0_4 m0_5 m0_6 m0_7 m0_8 m0_9 m0_10 : List (List V)) (a1 : Int) (a2 a3 : ByteArray) : den Sp id [(V.ref 0 0), (V.int .i64 a1), (V.str a2), (V.str a3)] [(Blk.cells T_decl_judge [(V.sl .no T_api_Pair m0_0), (V.sl .no T_api_Pair m0_1), (V.sl .no T_decl_Keep m0_2), (V.sl .no T_decl_Break m0_3), (V.sl .no T_decl_Watch m0_4), (V.sl .no T_api_Proc m0_5), (V.sl .no T_api_Proc m0_6), (V.sl .no T_L_api_Var m0_7), (V.sl .no T_int m0_8), (V.sl .no T_L_api_Var m0_9), (V.sl .no T_int m0_10)] false)] none =
    ((den Sp decl_judge_proc.id [(V.ref 0 0), (V.int .i64 a1), (V.str a2)] [(Blk.cells T_decl_judge [(V.sl .no T_api_Pair m0_0), (V.sl .no T_api_Pair m0_1), (V.sl .no T_decl_Keep m0_2), (V.sl .no T_decl_Break m0_3), (V.sl .no T_decl_Watch m0_4), (V.sl .no T_api_Proc m0_5), (V.sl .no T_api_Proc m0_6), (V.sl .no T_L_api_Var m0_7), (V.sl .no T_int m0_8), (V.sl .no T_L_api_Var m0_9), (V.sl .no T_int m0_10)] false)] none)).bind (fun r16 => (Blk.asCells (List.getD (Res.bl r16) 0 (Blk.cells T_n0 [] true)) T_decl_judge 11 (fun rd17 => (V.asSl (rd17 0) T_api_Pair (fun es18 => (V.asSl (rd17 1) T_api_Pair (fun es19 => (V.asSl (rd17 2) T_decl_Keep (fun es20 => (V.asSl (rd17 3) T_decl_Break (fun es21 => (V.asSl (rd17 4) T_decl_Watch (fun es22 => (V.asSl (rd17 5) T_api_Proc (fun es23 => (V.asSl (rd17 6) T_api_Proc (fun es24 => (V.asSl (rd17 7) T_L_api_Var (fun es25 => (V.asSl (rd17 8) T_int (fun es26 => (V.asSl (rd17 9) T_L_api_Var (fun es27 => (V.asSl (rd17 10) T_int (fun es28 => (Res.onRet r16 (fun v29 => (V.asInt v29 .i64 (fun n30 => (bif (decide (n30 ≥ (0 : Int))) then (if (a1 = ((1 : Nat) : Int)) then (if (((0 : Int) ≤ n30) ∧ (n30 < (es27.length : Int))) then (V.asSl (List.getD (List.getD es27 (Int.toNat n30) []) 0 V.undef) T_api_Var (fun es33 => (L1_0_1_1_0_1_0 a3 es33 (es33.length : Int) (0 : Int) es18 es19 es20 es21 es22 es23 es24 es25 es26 es27 es28))) else none) else (if (a1 = ((0 : Nat) : Int)) then (if (((0 : Int) ≤ n30) ∧ (n30 < (es25.length : Int))) then (V.asSl (List.getD (List.getD es25 (Int.toNat n30) []) 0 V.undef) T_api_Var (fun es33 => (L1_0_1_1_0_1_0 a3 es33 (es33.length : Int) (0 : Int) es18 es19 es20 es21 es22 es23 es24 es25 es26 es27 es28))) else none) else none)) else (some ⟨(Out.ret (V.tup [(V.agg [(V.str (ByteArray.mk #[])), (V.int .i64 (0 : Int)), (V.int .i64 (0 : Int)), (V.int .i64 (0 : Int)), (V.int .i64 (0 : Int))]), (V.bool false)])), [(Blk.cells T_decl_judge [(V.sl .no T_api_Pair es18), (V.sl .no T_api_Pair es19), (V.sl .no T_decl_Keep es20), (V.sl .no T_decl_Break es21), (V.sl .no T_decl_Watch es22), (V.sl .no T_api_Proc es23), (V.sl .no T_api_Proc es24), (V.sl .no T_L_api_Var es25), (V.sl .no T_int es26), (V.sl .no T_L_api_Var es27), (V.sl .no T_int es28)] false)], none⟩))))))))))))))))))))))))))))))) := (den_eq ..).trans (by kernel_rfl)
end decl_judge_variable
namespace decl_judge_keep
noncomputable abbrev e (p : List Nat) := ev Sp (den Sp) id Tryz.f94.ntmps (cAt (bodyOf Tryz.f94) p)
noncomputable abbrev cn (n0 : List Nat) := canon Sp id n0
noncomputable abbrev K : K := kFin Sp (den Sp) Tryz.f94 1
theorem eq (m0_0 m0_1 m0_2 m0_3 m0_4 m0_5 m0_6 m0_7 m0_8 m0_9 m0_10 : List (List V)) (a1 : Int) : den Sp id [(V.ref 0 0), (V.int .i64 a1)] [(Blk.cells T_decl_judge [(V.sl .no T_api_Pair m0_0), (V.sl .no T_api_Pair m0_1), (V.sl .no T_decl_Keep m0_2), (V.sl .no T_decl_Break m0_3), (V.sl .no T_decl_Watch m0_4), (V.sl .no T_api_Proc m0_5), (V.sl .no T_api_Proc m0_6), (V.sl .no T_L_api_Var m0_7), (V.sl .no T_int m0_8), (V.sl .no T_L_api_Var m0_9), (V.sl .no T_int m0_10)] false)] none =
    (if (((0 : Int) ≤ a1) ∧ (a1 < (m0_2.length : Int))) then (V.asInt (List.getD (List.getD m0_2 (Int.toNat a1) []) 0 V.undef) .i64 (fun n14 => (V.asStr (List.getD (List.getD m0_2 (Int.toNat a1) []) 1 V.undef) (fun s15 => (V.asStr (List.getD (List.getD m0_2 (Int.toNat a1) []) 2 V.undef) (fun s16 => ((den Sp decl_judge_variable.id [(V.ref 0 0), (V.int .i64 n14), (V.str s15), (V.str s16)] [(Blk.cells T_decl_judge [(V.sl .no T_api_Pair m0_0), (V.sl .no T_api_Pair m0_1), (V.sl .no T_decl_Keep m0_2), (V.sl .no T_decl_Break m0_3), (V.sl .no T_decl_Watch m0_4), (V.sl .no T_api_Proc m0_5), (V.sl .no T_api_Proc m0_6), (V.sl .no T_L_api_Var m0_7), (V.sl .no T_int m0_8), (V.sl .no T_L_api_Var m0_9), (V.sl .no T_int m0_10)] false)] none)).bind (fun r18 => (Blk.asCells (List.getD (Res.bl r18) 0 (Blk.cells T_n0 [] true)) T_decl_judge 11 (fun rd19 => (V.asSl (rd19 0) T_api_Pair (fun es20 => (V.asSl (rd19 1) T_api_Pair (fun es21 => (V.asSl (rd19 2) T_decl_Keep (fun es22 => (V.asSl (rd19 3) T_decl_Break (fun es23 => (V.asSl (rd19 4) T_decl_Watch (fun es24 => (V.asSl (rd19 5) T_api_Proc (fun es25 => (V.asSl (rd19 6) T_api_Proc (fun es26 => (V.asSl (rd19 7) T_L_api_Var (fun es27 => (V.asSl (rd19 8) T_int (fun es28 => (V.asSl (rd19 9) T_L_api_Var (fun es29 => (V.asSl (rd19 10) T_int (fun es30 => (Res.onRet r18 (fun v31 => (V.asTup v31 2 (fun rd32 => (V.asAgg (rd32 0) 5 (fun rd33 => (V.asStr (rd33 0) (fun s34 => (V.asInt (rd33 1) .i64 (fun n35 => (V.asInt (rd33 2) .i64 (fun n36 => (V.asInt (rd33 3) .i64 (fun n37 => (V.asInt (rd33 4) .i64 (fun n38 => (V.asBool (rd32 1) (fun b39 => (bif (!b39) then (some ⟨(Out.ret (V.int .i64 (40 : Int))), [(Blk.cells T_decl_judge [(V.sl .no T_api_Pair es20), (V.sl .no T_api_Pair es21), (V.sl .no T_decl_Keep es22), (V.sl .no T_decl_Break es23), (V.sl .no T_decl_Watch es24), (V.sl .no T_api_Proc es25), (V.sl .no T_api_Proc es26), (V.sl .no T_L_api_Var es27), (V.sl .no T_int es28), (V.sl .no T_L_api_Var es29), (V.sl .no T_int es30)] false)], none⟩) else (some ⟨(Out.ret (V.int .i64 (0 : Int))), [(Blk.cells T_decl_judge [(V.sl .no T_api_Pair es20), (V.sl .no T_api_Pair es21), (V.sl .no T_decl_Keep es22), (V.sl .no T_decl_Break es23), (V.sl .no T_decl_Watch es24), (V.sl .no T_api_Proc es25), (V.sl .no T_api_Proc es26), (V.sl .no T_L_api_Var es27), (V.sl .no T_int es28), (V.sl .no T_L_api_Var es29), (V.sl .no T_int es30)] false)], none⟩))))))))))))))))))))))))))))))))))))))))))))))))))) else none) := (den_eq ..).trans (by kernel_rfl)
end decl_judge_keep
namespace decl_judge_watch
noncomputable abbrev e (p : List Nat) := ev Sp (den Sp) id Tryz.f96.ntmps (cAt (bodyOf Tryz.f96) p)
noncomputable abbrev cn (n0 : List Nat) := canon Sp id n0
noncomputable abbrev K : K := kFin Sp (den Sp) Tryz.f96 1
theorem eq (m0_0 m0_1 m0_2 m0_3 m0_4 m0_5 m0_6 m0_7 m0_8 m0_9 m0_10 : List (List V)) (a1 : Int) : den Sp id [(V.ref 0 0), (V.int .i64 a1)] [(Blk.cells T_decl_judge [(V.sl .no T_api_Pair m0_0), (V.sl .no T_api_Pair m0_1), (V.sl .no T_decl_Keep m0_2), (V.sl .no T_decl_Break m0_3), (V.sl .no T_decl_Watch m0_4), (V.sl .no T_api_Proc m0_5), (V.sl .no T_api_Proc m0_6), (V.sl .no T_L_api_Var m0_7), (V.sl .no T_int m0_8), (V.sl .no T_L_api_Var m0_9), (V.sl .no T_int m0_10)] false)] none =
    (if (((0 : Int) ≤ a1) ∧ (a1 < (m0_4.length : Int))) then (V.asInt (List.getD (List.getD m0_4 (Int.toNat a1) []) 0 V.undef) .i64 (fun n14 => (V.asStr (List.getD (List.getD m0_4 (Int.toNat a1) []) 1 V.undef) (fun s15 => (V.asStr (List.getD (List.getD m0_4 (Int.toNat a1) []) 2 V.undef) (fun s16 => ((den Sp decl_judge_variable.id [(V.ref 0 0), (V.int .i64 n14), (V.str s15), (V.str s16)] [(Blk.cells T_decl_judge [(V.sl .no T_api_Pair m0_0), (V.sl .no T_api_Pair m0_1), (V.sl .no T_decl_Keep m0_2), (V.sl .no T_decl_Break m0_3), (V.sl .no T_decl_Watch m0_4), (V.sl .no T_api_Proc m0_5), (V.sl .no T_api_Proc m0_6), (V.sl .no T_L_api_Var m0_7), (V.sl .no T_int m0_8), (V.sl .no T_L_api_Var m0_9), (V.sl .no T_int m0_10)] false)] none)).bind (fun r18 => (Blk.asCells (List.getD (Res.bl r18) 0 (Blk.cells T_n0 [] true)) T_decl_judge 11 (fun rd19 => (V.asSl (rd19 0) T_api_Pair (fun es20 => (V.asSl (rd19 1) T_api_Pair (fun es21 => (V.asSl (rd19 2) T_decl_Keep (fun es22 => (V.asSl (rd19 3) T_decl_Break (fun es23 => (V.asSl (rd19 4) T_decl_Watch (fun es24 => (V.asSl (rd19 5) T_api_Proc (fun es25 => (V.asSl (rd19 6) T_api_Proc (fun es26 => (V.asSl (rd19 7) T_L_api_Var (fun es27 => (V.asSl (rd19 8) T_int (fun es28 => (V.asSl (rd19 9) T_L_api_Var (fun es29 => (V.asSl (rd19 10) T_int (fun es30 => (Res.onRet r18 (fun v31 => (V.asTup v31 2 (fun rd32 => (V.asAgg (rd32 0) 5 (fun rd33 => (V.asStr (rd33 0) (fun s34 => (V.asInt (rd33 1) .i64 (fun n35 => (V.asInt (rd33 2) .i64 (fun n36 => (V.asInt (rd33 3) .i64 (fun n37 => (V.asInt (rd33 4) .i64 (fun n38 => (V.asBool (rd32 1) (fun b39 => (bif (!b39) then (some ⟨(Out.ret (V.int .i64 (40 : Int))), [(Blk.cells T_decl_judge [(V.sl .no T_api_Pair es20), (V.sl .no T_api_Pair es21), (V.sl .no T_decl_Keep es22), (V.sl .no T_decl_Break es23), (V.sl .no T_decl_Watch es24), (V.sl .no T_api_Proc es25), (V.sl .no T_api_Proc es26), (V.sl .no T_L_api_Var es27), (V.sl .no T_int es28), (V.sl .no T_L_api_Var es29), (V.sl .no T_int es30)] false)], none⟩) else (bif (decide (n36 > (0 : Int))) then (some ⟨(Out.ret (V.int .i64 (41 : Int))), [(Blk.cells T_decl_judge [(V.sl .no T_api_Pair es20), (V.sl .no T_api_Pair es21), (V.sl .no T_decl_Keep es22), (V.sl .no T_decl_Break es23), (V.sl .no T_decl_Watch es24), (V.sl .no T_api_Proc es25), (V.sl .no T_api_Proc es26), (V.sl .no T_L_api_Var es27), (V.sl .no T_int es28), (V.sl .no T_L_api_Var es29), (V.sl .no T_int es30)] false)], none⟩) else (some ⟨(Out.ret (V.int .i64 (0 : Int))), [(Blk.cells T_decl_judge [(V.sl .no T_api_Pair es20), (V.sl .no T_api_Pair es21), (V.sl .no T_decl_Keep es22), (V.sl .no T_decl_Break es23), (V.sl .no T_decl_Watch es24), (V.sl .no T_api_Proc es25), (V.sl .no T_api_Proc es26), (V.sl .no T_L_api_Var es27), (V.sl .no T_int es28), (V.sl .no T_L_api_Var es29), (V.sl .no T_int es30)] false)], none⟩)))))))))))))))))))))))))))))))))))))))))))))))))))) else none) := (den_eq ..).trans (by kernel_rfl)
end decl_judge_watch
namespace decl_judge_stop
noncomputable abbrev e (p : List Nat) := ev Sp (den Sp) id Tryz.f95.ntmps (cAt (bodyOf Tryz.f95) p)
noncomputable abbrev cn (n0 : List Nat) := canon Sp id n0
noncomputable abbrev K : K := kFin Sp (den Sp) Tryz.f95 1
noncomputable def L1_1_1_1_1_0_1_0 (i0 : Int) (l1 : List (List V)) (i2 i3 : Int) (l4 l5 l6 l7 l8 l9 l10 l11 l12 l13 l14 : List (List V)) (i15 : Int) (s16 : ByteArray) (i17 : Int) (l18 : List (List V)) : Option Res := LP (e [1, 1, 1, 1, 1, 0, 1, 0, 0]) (cn [0, 1005]) (kBlk 0 (kSeq (e [1, 1, 1, 1, 1, 1]) (K))) ([(0, (V.ref 0 0)), (5, (V.ref 1005 0)), (6, (V.int .i64 i0)), (48, (V.sl .no T_api_Expr l1)), (49, (V.int .i64 i2)), (50, (V.int .i64 i3))], ⟨[(0, (Blk.cells T_decl_judge [(V.sl .no T_api_Pair l4), (V.sl .no T_api_Pair l5), (V.sl .no T_decl_Keep l6), (V.sl .no T_decl_Break l7), (V.sl .no T_decl_Watch l8), (V.sl .no T_api_Proc l9), (V.sl .no T_api_Proc l10), (V.sl .no T_L_api_Var l11), (V.sl .no T_int l12), (V.sl .no T_L_api_Var l13), (V.sl .no T_int l14)] false)), (1005, (Blk.cells T_decl_Break [(V.int .i64 i15), (V.str s16), (V.int .i64 i17), (V.sl .no T_api_Expr l18)] false))], [], [], [], none⟩)
theorem L1_1_1_1_1_0_1_0_eq (i0 : Int) (l1 : List (List V)) (i2 i3 : Int) (l4 l5 l6 l7 l8 l9 l10 l11 l12 l13 l14 : List (List V)) (i15 : Int) (s16 : ByteArray) (i17 : Int) (l18 : List (List V)) : L1_1_1_1_1_0_1_0 i0 l1 i2 i3 l4 l5 l6 l7 l8 l9 l10 l11 l12 l13 l14 i15 s16 i17 l18 =
    (bif (decide (i3 < i2)) then (if (((0 : Int) ≤ i3) ∧ (i3 < (l1.length : Int))) then (V.asInt (List.getD (List.getD l1 (Int.toNat i3) []) 0 V.undef) .i64 (fun n59 => (V.asStr (List.getD (List.getD l1 (Int.toNat i3) []) 1 V.undef) (fun s60 => (V.asInt (List.getD (List.getD l1 (Int.toNat i3) []) 2 V.undef) .i64 (fun n61 => (V.asSl (List.getD (List.getD l1 (Int.toNat i3) []) 3 V.undef) T_api_Expr (fun es62 => (if (i15 = ((1 : Nat) : Int)) then (if (((0 : Int) ≤ i0) ∧ (i0 < (l13.length : Int))) then (V.asSl (List.getD (List.getD l13 (Int.toNat i0) []) 0 V.undef) T_api_Var (fun es64 => ((den Sp check_TypeOf.id [(V.agg [(V.int .i64 n59), (V.str s60), (V.int .i64 n61), (V.sl .no T_api_Expr es62)]), (V.sl .no T_api_Var es64), (V.int .i64 i17)] [] none)).bind (fun r65 => (Res.onRet r65 (fun v66 => (V.asTup v66 2 (fun rd67 => (V.asInt (rd67 0) .i64 (fun n68 => (V.asInt (rd67 1) .i64 (fun n69 => (bif (n69 != (0 : Int)) then (some ⟨(Out.ret (V.int .i64 n69)), [(Blk.cells T_decl_judge [(V.sl .no T_api_Pair l4), (V.sl .no T_api_Pair l5), (V.sl .no T_decl_Keep l6), (V.sl .no T_decl_Break l7), (V.sl .no T_decl_Watch l8), (V.sl .no T_api_Proc l9), (V.sl .no T_api_Proc l10), (V.sl .no T_L_api_Var l11), (V.sl .no T_int l12), (V.sl .no T_L_api_Var l13), (V.sl .no T_int l14)] false)], none⟩) else (bif (n68 != (2 : Int)) then (some ⟨(Out.ret (V.int .i64 (41 : Int))), [(Blk.cells T_decl_judge [(V.sl .no T_api_Pair l4), (V.sl .no T_api_Pair l5), (V.sl .no T_decl_Keep l6), (V.sl .no T_decl_Break l7), (V.sl .no T_decl_Watch l8), (V.sl .no T_api_Proc l9), (V.sl .no T_api_Proc l10), (V.sl .no T_L_api_Var l11), (V.sl .no T_int l12), (V.sl .no T_L_api_Var l13), (V.sl .no T_int l14)] false)], none⟩) else (L1_1_1_1_1_0_1_0 i0 l1 i2 (IntKind.wrap .i64 (i3 + (1 : Int))) l4 l5 l6 l7 l8 l9 l10 l11 l12 l13 l14 i15 s16 i17 l18)))))))))))))) else none) else (if (i15 = ((0 : Nat) : Int)) then (if (((0 : Int) ≤ i0) ∧ (i0 < (l11.length : Int))) then (V.asSl (List.getD (List.getD l11 (Int.toNat i0) []) 0 V.undef) T_api_Var (fun es64 => ((den Sp check_TypeOf.id [(V.agg [(V.int .i64 n59), (V.str s60), (V.int .i64 n61), (V.sl .no T_api_Expr es62)]), (V.sl .no T_api_Var es64), (V.int .i64 i17)] [] none)).bind (fun r65 => (Res.onRet r65 (fun v66 => (V.asTup v66 2 (fun rd67 => (V.asInt (rd67 0) .i64 (fun n68 => (V.asInt (rd67 1) .i64 (fun n69 => (bif (n69 != (0 : Int)) then (some ⟨(Out.ret (V.int .i64 n69)), [(Blk.cells T_decl_judge [(V.sl .no T_api_Pair l4), (V.sl .no T_api_Pair l5), (V.sl .no T_decl_Keep l6), (V.sl .no T_decl_Break l7), (V.sl .no T_decl_Watch l8), (V.sl .no T_api_Proc l9), (V.sl .no T_api_Proc l10), (V.sl .no T_L_api_Var l11), (V.sl .no T_int l12), (V.sl .no T_L_api_Var l13), (V.sl .no T_int l14)] false)], none⟩) else (bif (n68 != (2 : Int)) then (some ⟨(Out.ret (V.int .i64 (41 : Int))), [(Blk.cells T_decl_judge [(V.sl .no T_api_Pair l4), (V.sl .no T_api_Pair l5), (V.sl .no T_decl_Keep l6), (V.sl .no T_decl_Break l7), (V.sl .no T_decl_Watch l8), (V.sl .no T_api_Proc l9), (V.sl .no T_api_Proc l10), (V.sl .no T_L_api_Var l11), (V.sl .no T_int l12), (V.sl .no T_L_api_Var l13), (V.sl .no T_int l14)] false)], none⟩) else (L1_1_1_1_1_0_1_0 i0 l1 i2 (IntKind.wrap .i64 (i3 + (1 : Int))) l4 l5 l6 l7 l8 l9 l10 l11 l12 l13 l14 i15 s16 i17 l18)))))))))))))) else none) else none)))))))))) else none) else (some ⟨(Out.ret (V.int .i64 (0 : Int))), [(Blk.cells T_decl_judge [(V.sl .no T_api_Pair l4), (V.sl .no T_api_Pair l5), (V.sl .no T_decl_Keep l6), (V.sl .no T_decl_Break l7), (V.sl .no T_decl_Watch l8), (V.sl .no T_api_Proc l9), (V.sl .no T_api_Proc l10), (V.sl .no T_L_api_Var l11), (V.sl .no T_int l12), (V.sl .no T_L_api_Var l13), (V.sl .no T_int l14)] false)], none⟩)) := (LP_eq ..).trans (by kernel_rfl)
theorem eq (m0_0 m0_1 m0_2 m0_3 m0_4 m0_5 m0_6 m0_7 m0_8 m0_9 m0_10 : List (List V)) (a1 : Int) : den Sp id [(V.ref 0 0), (V.int .i64 a1)] [(Blk.cells T_decl_judge [(V.sl .no T_api_Pair m0_0), (V.sl .no T_api_Pair m0_1), (V.sl .no T_decl_Keep m0_2), (V.sl .no T_decl_Break m0_3), (V.sl .no T_decl_Watch m0_4), (V.sl .no T_api_Proc m0_5), (V.sl .no T_api_Proc m0_6), (V.sl .no T_L_api_Var m0_7), (V.sl .no T_int m0_8), (V.sl .no T_L_api_Var m0_9), (V.sl .no T_int m0_10)] false)] none =
    (if (((0 : Int) ≤ a1) ∧ (a1 < (m0_3.length : Int))) then (V.asInt (List.getD (List.getD m0_3 (Int.toNat a1) []) 0 V.undef) .i64 (fun n14 => (V.asStr (List.getD (List.getD m0_3 (Int.toNat a1) []) 1 V.undef) (fun s15 => (V.asInt (List.getD (List.getD m0_3 (Int.toNat a1) []) 2 V.undef) .i64 (fun n16 => (V.asSl (List.getD (List.getD m0_3 (Int.toNat a1) []) 3 V.undef) T_api_Expr (fun es17 => ((den Sp decl_judge_proc.id [(V.ref 0 0), (V.int .i64 n14), (V.str s15)] [(Blk.cells T_decl_judge [(V.sl .no T_api_Pair m0_0), (V.sl .no T_api_Pair m0_1), (V.sl .no T_decl_Keep m0_2), (V.sl .no T_decl_Break m0_3), (V.sl .no T_decl_Watch m0_4), (V.sl .no T_api_Proc m0_5), (V.sl .no T_api_Proc m0_6), (V.sl .no T_L_api_Var m0_7), (V.sl .no T_int m0_8), (V.sl .no T_L_api_Var m0_9), (V.sl .no T_int m0_10)] false)] none)).bind (fun r19 => (Blk.asCells (List.getD (Res.bl r19) 0 (Blk.cells T_n0 [] true)) T_decl_judge 11 (fun rd20 => (V.asSl (rd20 0) T_api_Pair (fun es21 => (V.asSl (rd20 1) T_api_Pair (fun es22 => (V.asSl (rd20 2) T_decl_Keep (fun es23 => (V.asSl (rd20 3) T_decl_Break (fun es24 => (V.asSl (rd20 4) T_decl_Watch (fun es25 => (V.asSl (rd20 5) T_api_Proc (fun es26 => (V.asSl (rd20 6) T_api_Proc (fun es27 => (V.asSl (rd20 7) T_L_api_Var (fun es28 => (V.asSl (rd20 8) T_int (fun es29 => (V.asSl (rd20 9) T_L_api_Var (fun es30 => (V.asSl (rd20 10) T_int (fun es31 => (Res.onRet r19 (fun v32 => (V.asInt v32 .i64 (fun n33 => (bif (decide (n33 < (0 : Int))) then (some ⟨(Out.ret (V.int .i64 (40 : Int))), [(Blk.cells T_decl_judge [(V.sl .no T_api_Pair es21), (V.sl .no T_api_Pair es22), (V.sl .no T_decl_Keep es23), (V.sl .no T_decl_Break es24), (V.sl .no T_decl_Watch es25), (V.sl .no T_api_Proc es26), (V.sl .no T_api_Proc es27), (V.sl .no T_L_api_Var es28), (V.sl .no T_int es29), (V.sl .no T_L_api_Var es30), (V.sl .no T_int es31)] false)], none⟩) else (bif (decide (n16 < (0 : Int))) then (some ⟨(Out.ret (V.int .i64 (80 : Int))), [(Blk.cells T_decl_judge [(V.sl .no T_api_Pair es21), (V.sl .no T_api_Pair es22), (V.sl .no T_decl_Keep es23), (V.sl .no T_decl_Break es24), (V.sl .no T_decl_Watch es25), (V.sl .no T_api_Proc es26), (V.sl .no T_api_Proc es27), (V.sl .no T_L_api_Var es28), (V.sl .no T_int es29), (V.sl .no T_L_api_Var es30), (V.sl .no T_int es31)] false)], none⟩) else (if (n14 = ((1 : Nat) : Int)) then (if (((0 : Int) ≤ n33) ∧ (n33 < (es31.length : Int))) then (V.asInt (List.getD (List.getD es31 (Int.toNat n33) []) 0 V.undef) .i64 (fun n36 => (bif (decide (n16 > (IntKind.wrap .i64 (n36 + (1 : Int))))) then (some ⟨(Out.ret (V.int .i64 (80 : Int))), [(Blk.cells T_decl_judge [(V.sl .no T_api_Pair es21), (V.sl .no T_api_Pair es22), (V.sl .no T_decl_Keep es23), (V.sl .no T_decl_Break es24), (V.sl .no T_decl_Watch es25), (V.sl .no T_api_Proc es26), (V.sl .no T_api_Proc es27), (V.sl .no T_L_api_Var es28), (V.sl .no T_int es29), (V.sl .no T_L_api_Var es30), (V.sl .no T_int es31)] false)], none⟩) else (L1_1_1_1_1_0_1_0 n33 es17 (es17.length : Int) (0 : Int) es21 es22 es23 es24 es25 es26 es27 es28 es29 es30 es31 n14 s15 n16 es17)))) else none) else (if (n14 = ((0 : Nat) : Int)) then (if (((0 : Int) ≤ n33) ∧ (n33 < (es29.length : Int))) then (V.asInt (List.getD (List.getD es29 (Int.toNat n33) []) 0 V.undef) .i64 (fun n36 => (bif (decide (n16 > (IntKind.wrap .i64 (n36 + (1 : Int))))) then (some ⟨(Out.ret (V.int .i64 (80 : Int))), [(Blk.cells T_decl_judge [(V.sl .no T_api_Pair es21), (V.sl .no T_api_Pair es22), (V.sl .no T_decl_Keep es23), (V.sl .no T_decl_Break es24), (V.sl .no T_decl_Watch es25), (V.sl .no T_api_Proc es26), (V.sl .no T_api_Proc es27), (V.sl .no T_L_api_Var es28), (V.sl .no T_int es29), (V.sl .no T_L_api_Var es30), (V.sl .no T_int es31)] false)], none⟩) else (L1_1_1_1_1_0_1_0 n33 es17 (es17.length : Int) (0 : Int) es21 es22 es23 es24 es25 es26 es27 es28 es29 es30 es31 n14 s15 n16 es17)))) else none) else none))))))))))))))))))))))))))))))))))))))))) else none) := (den_eq ..).trans (by kernel_rfl)
end decl_judge_stop
namespace decl_judge_pair
noncomputable abbrev e (p : List Nat) := ev Sp (den Sp) id Tryz.f92.ntmps (cAt (bodyOf Tryz.f92) p)
noncomputable abbrev cn (n0 : List Nat) := canon Sp id n0
noncomputable abbrev K : K := kFin Sp (den Sp) Tryz.f92 1
noncomputable def L1_1_1_0_1_0 (l0 : List (List V)) (i1 i2 : Int) (l3 l4 l5 l6 l7 l8 l9 l10 l11 l12 l13 : List (List V)) (s14 s15 s16 s17 : ByteArray) : Option Res := LP (e [1, 1, 1, 0, 1, 0, 0]) (cn [0, 1005]) (kBlk 0 (kSeq (e [1, 1, 1, 1]) (K))) ([(5, (V.ref 1005 0)), (34, (V.sl .no T_api_Pair l0)), (35, (V.int .i64 i1)), (36, (V.int .i64 i2))], ⟨[(0, (Blk.cells T_decl_judge [(V.sl .no T_api_Pair l3), (V.sl .no T_api_Pair l4), (V.sl .no T_decl_Keep l5), (V.sl .no T_decl_Break l6), (V.sl .no T_decl_Watch l7), (V.sl .no T_api_Proc l8), (V.sl .no T_api_Proc l9), (V.sl .no T_L_api_Var l10), (V.sl .no T_int l11), (V.sl .no T_L_api_Var l12), (V.sl .no T_int l13)] false)), (1005, (Blk.cells T_api_Pair [(V.str s14), (V.str s15), (V.str s16), (V.str s17)] false))], [], [], [], none⟩)
theorem L1_1_1_0_1_0_eq (l0 : List (List V)) (i1 i2 : Int) (l3 l4 l5 l6 l7 l8 l9 l10 l11 l12 l13 : List (List V)) (s14 s15 s16 s17 : ByteArray) : L1_1_1_0_1_0 l0 i1 i2 l3 l4 l5 l6 l7 l8 l9 l10 l11 l12 l13 s14 s15 s16 s17 =
    (bif (decide (i2 < i1)) then (if (((0 : Int) ≤ i2) ∧ (i2 < (l0.length : Int))) then (V.asStr (List.getD (List.getD l0 (Int.toNat i2) []) 0 V.undef) (fun s70 => (V.asStr (List.getD (List.getD l0 (Int.toNat i2) []) 1 V.undef) (fun s71 => (V.asStr (List.getD (List.getD l0 (Int.toNat i2) []) 2 V.undef) (fun s72 => (V.asStr (List.getD (List.getD l0 (Int.toNat i2) []) 3 V.undef) (fun s73 => (bif (decide (s70 = s14)) then (some ⟨(Out.ret (V.int .i64 (90 : Int))), [(Blk.cells T_decl_judge [(V.sl .no T_api_Pair l3), (V.sl .no T_api_Pair l4), (V.sl .no T_decl_Keep l5), (V.sl .no T_decl_Break l6), (V.sl .no T_decl_Watch l7), (V.sl .no T_api_Proc l8), (V.sl .no T_api_Proc l9), (V.sl .no T_L_api_Var l10), (V.sl .no T_int l11), (V.sl .no T_L_api_Var l12), (V.sl .no T_int l13)] false)], none⟩) else (bif (decide (s71 = s15)) then (some ⟨(Out.ret (V.int .i64 (90 : Int))), [(Blk.cells T_decl_judge [(V.sl .no T_api_Pair l3), (V.sl .no T_api_Pair l4), (V.sl .no T_decl_Keep l5), (V.sl .no T_decl_Break l6), (V.sl .no T_decl_Watch l7), (V.sl .no T_api_Proc l8), (V.sl .no T_api_Proc l9), (V.sl .no T_L_api_Var l10), (V.sl .no T_int l11), (V.sl .no T_L_api_Var l12), (V.sl .no T_int l13)] false)], none⟩) else (L1_1_1_0_1_0 l0 i1 (IntKind.wrap .i64 (i2 + (1 : Int))) l3 l4 l5 l6 l7 l8 l9 l10 l11 l12 l13 s14 s15 s16 s17))))))))))) else none) else (some ⟨(Out.ret (V.int .i64 (0 : Int))), [(Blk.cells T_decl_judge [(V.sl .no T_api_Pair l3), (V.sl .no T_api_Pair l4), (V.sl .no T_decl_Keep l5), (V.sl .no T_decl_Break l6), (V.sl .no T_decl_Watch l7), (V.sl .no T_api_Proc l8), (V.sl .no T_api_Proc l9), (V.sl .no T_L_api_Var l10), (V.sl .no T_int l11), (V.sl .no T_L_api_Var l12), (V.sl .no T_int l13)] false)], none⟩)) := (LP_eq ..).trans (by kernel_rfl)
theorem eq (m0_0 m0_1 m0_2 m0_3 m0_4 m0_5 m0_6 m0_7 m0_8 m0_9 m0_10 : List (List V)) (a1 : Int) : den Sp id [(V.ref 0 0), (V.int .i64 a1)] [(Blk.cells T_decl_judge [(V.sl .no T_api_Pair m0_0), (V.sl .no T_api_Pair m0_1), (V.sl .no T_decl_Keep m0_2), (V.sl .no T_decl_Break m0_3), (V.sl .no T_decl_Watch m0_4), (V.sl .no T_api_Proc m0_5), (V.sl .no T_api_Proc m0_6), (V.sl .no T_L_api_Var m0_7), (V.sl .no T_int m0_8), (V.sl .no T_L_api_Var m0_9), (V.sl .no T_int m0_10)] false)] none =
    (if (((0 : Int) ≤ a1) ∧ (a1 < (m0_0.length : Int))) then (V.asStr (List.getD (List.getD m0_0 (Int.toNat a1) []) 0 V.undef) (fun s14 => (V.asStr (List.getD (List.getD m0_0 (Int.toNat a1) []) 1 V.undef) (fun s15 => (V.asStr (List.getD (List.getD m0_0 (Int.toNat a1) []) 2 V.undef) (fun s16 => (V.asStr (List.getD (List.getD m0_0 (Int.toNat a1) []) 3 V.undef) (fun s17 => ((den Sp decl_judge_proc.id [(V.ref 0 0), (V.int .i64 (0 : Int)), (V.str s14)] [(Blk.cells T_decl_judge [(V.sl .no T_api_Pair m0_0), (V.sl .no T_api_Pair m0_1), (V.sl .no T_decl_Keep m0_2), (V.sl .no T_decl_Break m0_3), (V.sl .no T_decl_Watch m0_4), (V.sl .no T_api_Proc m0_5), (V.sl .no T_api_Proc m0_6), (V.sl .no T_L_api_Var m0_7), (V.sl .no T_int m0_8), (V.sl .no T_L_api_Var m0_9), (V.sl .no T_int m0_10)] false)] none)).bind (fun r19 => (Blk.asCells (List.getD (Res.bl r19) 0 (Blk.cells T_n0 [] true)) T_decl_judge 11 (fun rd20 => (V.asSl (rd20 0) T_api_Pair (fun es21 => (V.asSl (rd20 1) T_api_Pair (fun es22 => (V.asSl (rd20 2) T_decl_Keep (fun es23 => (V.asSl (rd20 3) T_decl_Break (fun es24 => (V.asSl (rd20 4) T_decl_Watch (fun es25 => (V.asSl (rd20 5) T_api_Proc (fun es26 => (V.asSl (rd20 6) T_api_Proc (fun es27 => (V.asSl (rd20 7) T_L_api_Var (fun es28 => (V.asSl (rd20 8) T_int (fun es29 => (V.asSl (rd20 9) T_L_api_Var (fun es30 => (V.asSl (rd20 10) T_int (fun es31 => (Res.onRet r19 (fun v32 => (V.asInt v32 .i64 (fun n33 => (bif (decide (n33 < (0 : Int))) then (some ⟨(Out.ret (V.int .i64 (40 : Int))), [(Blk.cells T_decl_judge [(V.sl .no T_api_Pair es21), (V.sl .no T_api_Pair es22), (V.sl .no T_decl_Keep es23), (V.sl .no T_decl_Break es24), (V.sl .no T_decl_Watch es25), (V.sl .no T_api_Proc es26), (V.sl .no T_api_Proc es27), (V.sl .no T_L_api_Var es28), (V.sl .no T_int es29), (V.sl .no T_L_api_Var es30), (V.sl .no T_int es31)] false)], none⟩) else ((den Sp decl_judge_proc.id [(V.ref 0 0), (V.int .i64 (1 : Int)), (V.str s15)] [(Blk.cells T_decl_judge [(V.sl .no T_api_Pair es21), (V.sl .no T_api_Pair es22), (V.sl .no T_decl_Keep es23), (V.sl .no T_decl_Break es24), (V.sl .no T_decl_Watch es25), (V.sl .no T_api_Proc es26), (V.sl .no T_api_Proc es27), (V.sl .no T_L_api_Var es28), (V.sl .no T_int es29), (V.sl .no T_L_api_Var es30), (V.sl .no T_int es31)] false)] none)).bind (fun r34 => (Blk.asCells (List.getD (Res.bl r34) 0 (Blk.cells T_n0 [] true)) T_decl_judge 11 (fun rd35 => (V.asSl (rd35 0) T_api_Pair (fun es36 => (V.asSl (rd35 1) T_api_Pair (fun es37 => (V.asSl (rd35 2) T_decl_Keep (fun es38 => (V.asSl (rd35 3) T_decl_Break (fun es39 => (V.asSl (rd35 4) T_decl_Watch (fun es40 => (V.asSl (rd35 5) T_api_Proc (fun es41 => (V.asSl (rd35 6) T_api_Proc (fun es42 => (V.asSl (rd35 7) T_L_api_Var (fun es43 => (V.asSl (rd35 8) T_int (fun es44 => (V.asSl (rd35 9) T_L_api_Var (fun es45 => (V.asSl (rd35 10) T_int (fun es46 => (Res.onRet r34 (fun v47 => (V.asInt v47 .i64 (fun n48 => (bif (decide (n48 < (0 : Int))) then (some ⟨(Out.ret (V.int .i64 (40 : Int))), [(Blk.cells T_decl_judge [(V.sl .no T_api_Pair es36), (V.sl .no T_api_Pair es37), (V.sl .no T_decl_Keep es38), (V.sl .no T_decl_Break es39), (V.sl .no T_decl_Watch es40), (V.sl .no T_api_Proc es41), (V.sl .no T_api_Proc es42), (V.sl .no T_L_api_Var es43), (V.sl .no T_int es44), (V.sl .no T_L_api_Var es45), (V.sl .no T_int es46)] false)], none⟩) else (if ((0 : Int) ≤ a1) then (if ((0 ≤ (Int.toNat a1)) ∧ ((Int.toNat a1) ≤ (List.length es36))) then (L1_1_1_0_1_0 (List.take ((Int.toNat a1) - 0) (List.drop 0 es36)) (((List.length (List.take ((Int.toNat a1) - 0) (List.drop 0 es36))) : Nat) : Int) (0 : Int) es36 es37 es38 es39 es40 es41 es42 es43 es44 es45 es46 s14 s15 s16 s17) else none) else none))))))))))))))))))))))))))))))))))))))))))))))))))))))))))))))))))))) else none) := (den_eq ..).trans (by kernel_rfl)
end decl_judge_pair
end Go.Proofs.YtmhnmelaodhemaaGreatDoor
namespace Go.Proofs.YtmhnmelaodhemaaGreatDoor
open Go Go.Proofs.Ab Go.Proofs.Px
set_option linter.unusedVariables false
set_option linter.unusedSimpArgs false
set_option maxRecDepth 100000
def judgeB (f : Fl) (a b : List Prc) : Blk := .cells T_decl_judge [.sl .no T_api_Pair (f.pairs.map Pai.v), .sl .no T_api_Pair (f.sames.map Pai.v), .sl .no T_decl_Keep (f.keeps.map Kp.v), .sl .no T_decl_Break (f.breaks.map Bk.v), .sl .no T_decl_Watch (f.watches.map Wt.v), .sl .no T_api_Proc (a.map Prc.v), .sl .no T_api_Proc (b.map Prc.v), .sl .no T_L_api_Var (vrows (a.map varsP)), .sl .no T_int (iv (a.map fun q => (Stm.counts q.body : Int))), .sl .no T_L_api_Var (vrows (b.map varsP)), .sl .no T_int (iv (b.map fun q => (Stm.counts q.body : Int)))] false
theorem vrows_el (l : List (List Vr)) (i : Nat) (h : i < (vrows l).length) : (vrows l)[i] = [.sl .no T_api_Var ((l[i]'(by rw [vrows_len] at h; exact h)).map Vr.v)] := by simp [vrows]
section
variable (f : Fl) (a b : List Prc) (ha : Smalls a) (hb : Smalls b)
include ha hb
theorem judge_proc_is (n : Int) (s : List UInt8) : den Sp decl_judge_proc.id [.ref 0 0, .int .i64 n, .str (B s)] [judgeB f a b] none = some ⟨.ret (.int .i64 (match ofS n a b with | some ps => procI s ps 0 | none => -1)), [judgeB f a b], none⟩ := by
  have key : ∀ ps : List Prc, ps.length ≤ 1000000 → ∀ i : Nat, i ≤ ps.length → decl_judge_proc.L1_1_0_1_0 (B s) (ps.map Prc.v) (ps.length : Int) (i : Int) (f.pairs.map Pai.v) (f.sames.map Pai.v) (f.keeps.map Kp.v) (f.breaks.map Bk.v) (f.watches.map Wt.v) (a.map Prc.v) (b.map Prc.v) (vrows (a.map varsP)) (iv (a.map fun q => (Stm.counts q.body : Int))) (vrows (b.map varsP)) (iv (b.map fun q => (Stm.counts q.body : Int))) =
      some ⟨.ret (.int .i64 (procI s (ps.drop i) (i : Int))), [judgeB f a b], none⟩ := by
    intro ps hps
    refine down ?_ fun i hi ih => ?_
    · rw [decl_judge_proc.L1_1_0_1_0_eq]; simp [procI, judgeB]
    · simp only [Int.natCast_add, Int.natCast_one] at ih
      rw [decl_judge_proc.L1_1_0_1_0_eq, List.drop_eq_getElem_cons hi, procI]
      by_cases c : ps[i].name = s
      · simp (disch := omega) [hi, wrap_in, c]; rfl
      · simp (disch := omega) [hi, wrap_in, c, ih]
  have ka := key a ha.len 0 (Nat.zero_le _)
  have kb := key b hb.len 0 (Nat.zero_le _)
  simp only [Int.natCast_zero, List.drop_zero] at ka kb
  unfold judgeB at ka kb ⊢
  rw [decl_judge_proc.eq]
  unfold ofS
  by_cases h1 : n = 1
  · subst h1; simp [kb]
  · by_cases h0 : n = 0
    · subst h0; simp [ka]
    · by_cases c1 : n < 0
      · simp [h1, h0, c1]
      · have c2 : n > 1 := by omega
        simp [h1, h0, c1, c2]
theorem judge_variable_is (n : Int) (s t : List UInt8) : den Sp decl_judge_variable.id [.ref 0 0, .int .i64 n, .str (B s), .str (B t)] [judgeB f a b] none = some ⟨.ret (varA (match ofS n a b with | some ps => declV ps s t | none => none)), [judgeB f a b], none⟩ := by
  have key : ∀ vs : List Vr, vs.length ≤ 3000000 → ∀ i : Nat, i ≤ vs.length → decl_judge_variable.L1_0_1_1_0_1_0 (B t) (vs.map Vr.v) (vs.length : Int) (i : Int) (f.pairs.map Pai.v) (f.sames.map Pai.v) (f.keeps.map Kp.v) (f.breaks.map Bk.v) (f.watches.map Wt.v) (a.map Prc.v) (b.map Prc.v) (vrows (a.map varsP)) (iv (a.map fun q => (Stm.counts q.body : Int))) (vrows (b.map varsP)) (iv (b.map fun q => (Stm.counts q.body : Int))) =
      some ⟨.ret (varA (varQ t (vs.drop i))), [judgeB f a b], none⟩ := by
    intro vs hvs
    refine down ?_ fun i hi ih => ?_
    · rw [decl_judge_variable.L1_0_1_1_0_1_0_eq]; simp [varQ, varA, judgeB]; rfl
    · simp only [Int.natCast_add, Int.natCast_one] at ih
      rw [decl_judge_variable.L1_0_1_1_0_1_0_eq, List.drop_eq_getElem_cons hi, varQ]
      by_cases c : vs[i].name = t
      · simp (disch := omega) [hi, c, varA]
        simp [Vr.v, c, judgeB]
      · simp (disch := omega) [hi, wrap_in, c, ih]
  have hp := judge_proc_is f a b ha hb n s
  have hlen : ∀ (ps : List Prc), Smalls ps → ∀ (j : Nat) (hj : j < ps.length), (varsP ps[j]).length ≤ 3000000 := fun ps hs j hj => by
    obtain ⟨hq1, hq2⟩ := hs.proc _ (List.getElem_mem hj)
    exact varsP_len _ hq1 hq2
  unfold judgeB at hp key ⊢
  rw [decl_judge_variable.eq, hp]
  unfold ofS declV
  by_cases h1 : n = 1
  · subst h1
    rcases proc_cases s b 0 with ⟨h1, h2⟩ | ⟨j, hj, h1, h2⟩
    · simp [h1, h2, varA]; rfl
    · have k0 := key (varsP b[j]) (hlen b hb j hj) 0 (Nat.zero_le _)
      simp only [Int.natCast_zero, List.drop_zero] at k0
      have hvl : (vrows (b.map varsP)).length = b.length := by simp [vrows]
      simp (disch := first | omega | rfl) [h1, h2, hvl, hj]
      simp [hvl, hj, vrows_el, k0]
  · by_cases h0 : n = 0
    · subst h0
      rcases proc_cases s a 0 with ⟨h1, h2⟩ | ⟨j, hj, h1, h2⟩
      · simp [h1, h2, varA]; rfl
      · have k0 := key (varsP a[j]) (hlen a ha j hj) 0 (Nat.zero_le _)
        simp only [Int.natCast_zero, List.drop_zero] at k0
        have hvl : (vrows (a.map varsP)).length = a.length := by simp [vrows]
        simp (disch := first | omega | rfl) [h1, h2, hvl, hj]
        simp [hvl, hj, vrows_el, k0]
    · simp [h1, h0, varA]; rfl
theorem judge_keep_is (i : Nat) (hi : i < f.keeps.length) : den Sp decl_judge_keep.id [.ref 0 0, .int .i64 (i : Int)] [judgeB f a b] none = some ⟨.ret (.int .i64 (keepE a b f.keeps[i])), [judgeB f a b], none⟩ := by
  have hv := judge_variable_is f a b ha hb f.keeps[i].side f.keeps[i].prc f.keeps[i].vr
  unfold judgeB at hv ⊢
  rw [decl_judge_keep.eq]
  unfold keepE
  cases ho : ofS f.keeps[i].side a b with
  | none => simp [hi, hv, ho, varA]
  | some ps => cases hd : declV ps f.keeps[i].prc f.keeps[i].vr <;> simp [hi, hv, ho, hd, varA]
theorem judge_watch_is (i : Nat) (hi : i < f.watches.length) : den Sp decl_judge_watch.id [.ref 0 0, .int .i64 (i : Int)] [judgeB f a b] none = some ⟨.ret (.int .i64 (watchE a b f.watches[i])), [judgeB f a b], none⟩ := by
  have hv := judge_variable_is f a b ha hb f.watches[i].side f.watches[i].prc f.watches[i].vr
  unfold judgeB at hv ⊢
  rw [decl_judge_watch.eq]
  unfold watchE
  cases ho : ofS f.watches[i].side a b with
  | none => simp [hi, hv, ho, varA]
  | some ps =>
    cases hd : declV ps f.watches[i].prc f.watches[i].vr with
    | none => simp [hi, hv, ho, hd, varA]
    | some v => by_cases c : 0 < v.size <;> simp [hi, hv, ho, hd, varA, c]
end
end Go.Proofs.YtmhnmelaodhemaaGreatDoor
namespace Go.Proofs.YtmhnmelaodhemaaGreatDoor
open Go Go.Proofs.Ab Go.Proofs.Px
set_option linter.unusedVariables false
set_option linter.unusedSimpArgs false
set_option maxRecDepth 100000
theorem iv_len (l : List Int) : (iv l).length = l.length := by simp [iv]
theorem iv_el (l : List Int) (i : Nat) (h : i < (iv l).length) : (iv l)[i] = [.int .i64 (l[i]'(by rw [iv_len] at h; exact h))] := by simp [iv]
section
variable (f : Fl) (a b : List Prc) (ha : Smalls a) (hb : Smalls b)
include ha hb
theorem judge_stop_is (i : Nat) (hi : i < f.breaks.length) (hw : f.breaks[i].whn.length ≤ 1000000) : den Sp decl_judge_stop.id [.ref 0 0, .int .i64 (i : Int)] [judgeB f a b] none = some ⟨.ret (.int .i64 (stopE a b f.breaks[i])), [judgeB f a b], none⟩ := by
  have hp := judge_proc_is f a b ha hb f.breaks[i].side f.breaks[i].prc
  have key : ∀ (n : Int) (ps : List Prc), (n = 1 ∧ ps = b ∨ n = 0 ∧ ps = a) → ∀ (j : Nat) (hj : j < ps.length), (varsP ps[j]).length ≤ 3000000 → ∀ (xs : List Ex) (pr : List UInt8) (m : Int), xs.length ≤ 1000000 → ∀ k : Nat, k ≤ xs.length →
      decl_judge_stop.L1_1_1_1_1_0_1_0 (j : Int) (xs.map Ex.v) (xs.length : Int) (k : Int) (f.pairs.map Pai.v) (f.sames.map Pai.v) (f.keeps.map Kp.v) (f.breaks.map Bk.v) (f.watches.map Wt.v) (a.map Prc.v) (b.map Prc.v) (vrows (a.map varsP)) (iv (a.map fun q => (Stm.counts q.body : Int))) (vrows (b.map varsP)) (iv (b.map fun q => (Stm.counts q.body : Int))) n (B pr) m (xs.map Ex.v) =
      some ⟨.ret (.int .i64 (whenE (varsP ps[j]) m (xs.drop k))), [judgeB f a b], none⟩ := by
    intro n ps hn j hj hv xs pr m hx
    refine down ?_ fun k hk ih => ?_
    · rw [decl_judge_stop.L1_1_1_1_1_0_1_0_eq]; simp [whenE, judgeB]
    · simp only [Int.natCast_add, Int.natCast_one] at ih
      have ht := check_TypeOf_is (varsP ps[j]) (by omega) m xs[k]
      have hal : (vrows (a.map varsP)).length = a.length := by simp [vrows]
      have hbl : (vrows (b.map varsP)).length = b.length := by simp [vrows]
      rw [decl_judge_stop.L1_1_1_1_1_0_1_0_eq, List.drop_eq_getElem_cons hk, whenE]
      rcases hn with ⟨rfl, rfl⟩ | ⟨rfl, rfl⟩
      · by_cases c1 : (tyP (varsP ps[j]) m xs[k]).1 = 0
        · by_cases c2 : (tyP (varsP ps[j]) m xs[k]).2 = 2 <;> simp (disch := omega) [hk, hbl, hj, vrows_el, ht, c1, c2, wrap_in, ih, List.getElem?_cons_zero, judgeB]
        · simp (disch := omega) [hk, hbl, hj, vrows_el, ht, c1, List.getElem?_cons_zero, judgeB]
      · by_cases c1 : (tyP (varsP ps[j]) m xs[k]).1 = 0
        · by_cases c2 : (tyP (varsP ps[j]) m xs[k]).2 = 2 <;> simp (disch := omega) [hk, hal, hj, vrows_el, ht, c1, c2, wrap_in, ih, List.getElem?_cons_zero, judgeB]
        · simp (disch := omega) [hk, hal, hj, vrows_el, ht, c1, List.getElem?_cons_zero, judgeB]
  have hlen : ∀ (ps : List Prc), Smalls ps → ∀ (j : Nat) (hj : j < ps.length), (varsP ps[j]).length ≤ 3000000 ∧ Stm.counts ps[j].body ≤ 1000000 := fun ps hs j hj => by
    obtain ⟨hq1, hq2⟩ := hs.proc _ (List.getElem_mem hj)
    exact ⟨varsP_len _ hq1 hq2, hq2⟩
  have hal : (iv (a.map fun q => (Stm.counts q.body : Int))).length = a.length := by simp [iv]
  have hbl : (iv (b.map fun q => (Stm.counts q.body : Int))).length = b.length := by simp [iv]
  unfold judgeB at hp key ⊢
  rw [decl_judge_stop.eq]
  unfold stopE
  generalize hx : f.breaks[i] = x at hp hw ⊢
  have hxi : List.getD (f.breaks.map Bk.v) i [] = x.v := by rw [map_at _ _ _ hi, hx]
  simp only [List.length_map, if_pos (in_row hi), Int.toNat_natCast, hxi, Bk.v_0, Bk.v_1, Bk.v_2, Bk.v_3, asInt_int, asStr_str, asSl_sl, hp, Option.bind_some, bl_mk, List.getD_cons_zero, List.getD_cons_succ, Nat.zero_add, Nat.reduceAdd, asCells_11, onRet_ret]
  cases ho : ofS x.side a b with
  | none => simp
  | some ps =>
    obtain ⟨hn, hS⟩ : (x.side = 1 ∧ ps = b ∨ x.side = 0 ∧ ps = a) ∧ Smalls ps := by
      unfold ofS at ho
      split at ho
      · cases ho; exact ⟨.inl ⟨‹_›, rfl⟩, hb⟩
      · split at ho
        · cases ho; exact ⟨.inr ⟨‹_›, rfl⟩, ha⟩
        · cases ho
    rcases proc_cases x.prc ps 0 with ⟨h1, h2⟩ | ⟨j, hj, h1, h2⟩
    · simp [h1, h2]
    · obtain ⟨q1, q2⟩ := hlen ps hS j hj
      have k0 := key x.side ps hn j hj q1 x.whn x.prc x.mark hw 0 (Nat.zero_le _)
      simp only [Int.natCast_zero, List.drop_zero] at k0
      by_cases c1 : x.mark < 0
      · have c4 : ¬ ((j : Nat) : Int) < 0 := by omega
        simp [h1, h2, c1, c4]
      · have hwr : IntKind.wrap .i64 ((Stm.counts ps[j].body : Int) + 1) = (Stm.counts ps[j].body : Int) + 1 := wrap_in (by omega) (by omega)
        have c4 : ¬ ((j : Nat) : Int) < 0 := by omega
        rcases hn with ⟨hn, rfl⟩ | ⟨hn, rfl⟩
        · rw [hn] at k0
          by_cases c2 : (Stm.counts ps[j].body : Int) + 1 < x.mark
          · simp [h1, h2, hn, c1, c4, hbl, hj, iv_el, hwr, c2]
          · simp [h1, h2, hn, c1, c4, hbl, hj, iv_el, hwr, c2, k0]
        · rw [hn] at k0
          by_cases c2 : (Stm.counts ps[j].body : Int) + 1 < x.mark
          · simp [h1, h2, hn, c1, c4, hal, hj, iv_el, hwr, c2]
          · simp [h1, h2, hn, c1, c4, hal, hj, iv_el, hwr, c2, k0]
theorem judge_pair_is (i : Nat) (hi : i < f.pairs.length) (hl : f.pairs.length ≤ 1000000) : den Sp decl_judge_pair.id [.ref 0 0, .int .i64 (i : Int)] [judgeB f a b] none = some ⟨.ret (.int .i64 (pairE a b (f.pairs.take i) f.pairs[i])), [judgeB f a b], none⟩ := by
  have p1 := judge_proc_is f a b ha hb 0 f.pairs[i].procA
  have p2 := judge_proc_is f a b ha hb 1 f.pairs[i].procB
  have key : ∀ l : List Pai, l.length ≤ 1000000 → ∀ k : Nat, k ≤ l.length → decl_judge_pair.L1_1_1_0_1_0 (l.map Pai.v) (l.length : Int) (k : Int) (f.pairs.map Pai.v) (f.sames.map Pai.v) (f.keeps.map Kp.v) (f.breaks.map Bk.v) (f.watches.map Wt.v) (a.map Prc.v) (b.map Prc.v) (vrows (a.map varsP)) (iv (a.map fun q => (Stm.counts q.body : Int))) (vrows (b.map varsP)) (iv (b.map fun q => (Stm.counts q.body : Int))) (B f.pairs[i].procA) (B f.pairs[i].procB) (B f.pairs[i].varA) (B f.pairs[i].varB) =
      some ⟨.ret (.int .i64 (if (l.drop k).any (fun q => decide (q.procA = f.pairs[i].procA) || decide (q.procB = f.pairs[i].procB)) then 90 else 0)), [judgeB f a b], none⟩ := by
    intro l hl
    refine down ?_ fun k hk ih => ?_
    · rw [decl_judge_pair.L1_1_1_0_1_0_eq]; simp [judgeB]
    · simp only [Int.natCast_add, Int.natCast_one] at ih
      rw [decl_judge_pair.L1_1_1_0_1_0_eq, List.drop_eq_getElem_cons hk, List.any_cons]
      by_cases c1 : l[k].procA = f.pairs[i].procA
      · simp (disch := omega) [hk, c1, judgeB]
      · by_cases c2 : l[k].procB = f.pairs[i].procB
        · simp (disch := omega) [hk, c1, c2, judgeB]
        · simp (disch := omega) [hk, c1, c2, wrap_in, ih]
  have k0 := key (f.pairs.take i) (by rw [List.length_take]; omega) 0 (Nat.zero_le _)
  have hlt : (f.pairs.take i).length = i := by rw [List.length_take]; omega
  simp only [Int.natCast_zero, List.drop_zero, hlt, List.map_take] at k0
  simp only [show ofS 0 a b = some a from rfl, show ofS 1 a b = some b from rfl] at p1 p2
  unfold judgeB at p1 p2 k0 ⊢
  rw [decl_judge_pair.eq]
  unfold pairE
  by_cases c1 : procQ f.pairs[i].procA a = none
  · simp [hi, p1, c1, procI_neg.2 c1]
  · have d1 : ¬ procI f.pairs[i].procA a 0 < 0 := fun h => c1 (procI_neg.1 h)
    by_cases c2 : procQ f.pairs[i].procB b = none
    · simp [hi, p1, p2, c1, d1, c2, procI_neg.2 c2]
    · have d2 : ¬ procI f.pairs[i].procB b 0 < 0 := fun h => c2 (procI_neg.1 h)
      simp [hi, p1, p2, c1, d1, c2, d2, k0]
      simp [Nat.min_eq_left (Nat.le_of_lt hi), k0, Nat.le_of_lt hi]
end
end Go.Proofs.YtmhnmelaodhemaaGreatDoor
namespace Go.Proofs.YtmhnmelaodhemaaGreatDoor
open Go Go.Proofs.Ab Go.Proofs.Px
set_option linter.unusedVariables false
set_option linter.unusedSimpArgs false
set_option linter.unusedSectionVars false
set_option maxRecDepth 100000
structure SmallF (f : Fl) : Prop where
  pairs : f.pairs.length ≤ 1000000
  sames : f.sames.length ≤ 1000000
  keeps : f.keeps.length ≤ 1000000
  breaks : f.breaks.length ≤ 1000000
  watches : f.watches.length ≤ 1000000
  whn : ∀ x ∈ f.breaks, x.whn.length ≤ 1000000
  mark : ∀ x ∈ f.breaks, (Lit.int .i64 x.mark).wf = true
def toldE (t : Int × Int × Int) : Option Res := some ⟨.ret (.tup [.agg [.int .i64 t.1, .int .i64 t.2.1], .int .i64 t.2.2]), [], none⟩
section
variable (f : Fl) (a b : List Prc) (ha : Smalls a) (hb : Smalls b) (hf : SmallF f)
include ha hb hf
end
end Go.Proofs.YtmhnmelaodhemaaGreatDoor
namespace Go.Proofs.YtmhnmelaodhemaaGreatDoor
open Go Go.Proofs.Ab
set_option maxRecDepth 100000
set_option linter.unusedVariables false
namespace decl_judge_same
noncomputable abbrev e (p : List Nat) := ev Sp (den Sp) id Tryz.f93.ntmps (cAt (bodyOf Tryz.f93) p)
noncomputable abbrev cn (n0 : List Nat) := canon Sp id n0
noncomputable abbrev K : K := kFin Sp (den Sp) Tryz.f93 1
noncomputable def L1_1_1_1_0_1_0 (b0 : Bool) (l1 : List (List V)) (i2 i3 : Int) (l4 l5 l6 l7 l8 l9 l10 l11 l12 l13 l14 : List (List V)) (s15 s16 s17 s18 : ByteArray) : Option Res := LP (e [1, 1, 1, 1, 0, 1, 0, 0]) (cn [0, 1005]) (kBlk 0 (kSeq (e [1, 1, 1, 1, 1]) (K))) ([(0, (V.ref 0 0)), (5, (V.ref 1005 0)), (6, (V.bool b0)), (37, (V.sl .no T_api_Pair l1)), (38, (V.int .i64 i2)), (39, (V.int .i64 i3))], ⟨[(0, (Blk.cells T_decl_judge [(V.sl .no T_api_Pair l4), (V.sl .no T_api_Pair l5), (V.sl .no T_decl_Keep l6), (V.sl .no T_decl_Break l7), (V.sl .no T_decl_Watch l8), (V.sl .no T_api_Proc l9), (V.sl .no T_api_Proc l10), (V.sl .no T_L_api_Var l11), (V.sl .no T_int l12), (V.sl .no T_L_api_Var l13), (V.sl .no T_int l14)] false)), (1005, (Blk.cells T_api_Pair [(V.str s15), (V.str s16), (V.str s17), (V.str s18)] false))], [], [], [], none⟩)
noncomputable def J1_1_1_1_0_1_0_0_1_1_1 (l0 : List (List V)) (i1 i2 : Int) (l3 l4 l5 l6 l7 l8 l9 l10 l11 l12 l13 : List (List V)) (s14 s15 s16 s17 s18 s19 s20 s21 : ByteArray) : Option Res := joinAt Sp (den Sp) id Tryz.f93.ntmps (cAt (bodyOf Tryz.f93) [1, 1, 1, 1, 0, 1, 0, 0, 1, 1, 1]) (kLp (e [1, 1, 1, 1, 0, 1, 0, 0]) (cn [0, 1005]) (kBlk 0 (kSeq (e [1, 1, 1, 1, 1]) (K)))) ([(0, (V.ref 0 0)), (5, (V.ref 1005 0)), (6, (V.bool true)), (37, (V.sl .no T_api_Pair l0)), (38, (V.int .i64 i1)), (39, (V.int .i64 i2))], ⟨[(0, (Blk.cells T_decl_judge [(V.sl .no T_api_Pair l3), (V.sl .no T_api_Pair l4), (V.sl .no T_decl_Keep l5), (V.sl .no T_decl_Break l6), (V.sl .no T_decl_Watch l7), (V.sl .no T_api_Proc l8), (V.sl .no T_api_Proc l9), (V.sl .no T_L_api_Var l10), (V.sl .no T_int l11), (V.sl .no T_L_api_Var l12), (V.sl .no T_int l13)] false)), (1005, (Blk.cells T_api_Pair [(V.str s14), (V.str s15), (V.str s16), (V.str s17)] false)), (1008, (Blk.cells T_api_Pair [(V.str s18), (V.str s19), (V.str s20), (V.str s21)] false))], [], [], [], none⟩)
noncomputable def J1_1_1_1_0_1_0_0_1_1_1v1 (b0 : Bool) (l1 : List (List V)) (i2 i3 : Int) (l4 l5 l6 l7 l8 l9 l10 l11 l12 l13 l14 : List (List V)) (s15 s16 s17 s18 s19 s20 s21 s22 : ByteArray) : Option Res := joinAt Sp (den Sp) id Tryz.f93.ntmps (cAt (bodyOf Tryz.f93) [1, 1, 1, 1, 0, 1, 0, 0, 1, 1, 1]) (kLp (e [1, 1, 1, 1, 0, 1, 0, 0]) (cn [0, 1005]) (kBlk 0 (kSeq (e [1, 1, 1, 1, 1]) (K)))) ([(0, (V.ref 0 0)), (5, (V.ref 1005 0)), (6, (V.bool b0)), (37, (V.sl .no T_api_Pair l1)), (38, (V.int .i64 i2)), (39, (V.int .i64 i3))], ⟨[(0, (Blk.cells T_decl_judge [(V.sl .no T_api_Pair l4), (V.sl .no T_api_Pair l5), (V.sl .no T_decl_Keep l6), (V.sl .no T_decl_Break l7), (V.sl .no T_decl_Watch l8), (V.sl .no T_api_Proc l9), (V.sl .no T_api_Proc l10), (V.sl .no T_L_api_Var l11), (V.sl .no T_int l12), (V.sl .no T_L_api_Var l13), (V.sl .no T_int l14)] false)), (1005, (Blk.cells T_api_Pair [(V.str s15), (V.str s16), (V.str s17), (V.str s18)] false)), (1008, (Blk.cells T_api_Pair [(V.str s19), (V.str s20), (V.str s21), (V.str s22)] false))], [], [], [], none⟩)
noncomputable def J1_1_1_1_1_1_1_1_0_0_1_1_1_0_0 (b0 : Bool) (l1 : List (List V)) (i2 i3 : Int) (l4 l5 l6 l7 l8 l9 l10 l11 l12 l13 l14 : List (List V)) (s15 s16 s17 s18 s19 : ByteArray) (i20 i21 i22 i23 : Int) (s24 : ByteArray) (i25 i26 i27 i28 : Int) : Option Res := joinAt Sp (den Sp) id Tryz.f93.ntmps (cAt (bodyOf Tryz.f93) [1, 1, 1, 1, 1, 1, 1, 1, 0, 0, 1, 1, 1, 0, 0]) (kSeq (e [1, 1, 1, 1, 1, 1, 1, 1, 0, 0, 1, 1, 1, 0, 1]) (kBlk 2 (kSeq (e [1, 1, 1, 1, 1, 1, 1, 1, 1]) (K)))) ([(0, (V.ref 0 0)), (5, (V.ref 1005 0)), (6, (V.bool b0)), (37, (V.sl .no T_api_Pair l1)), (38, (V.int .i64 i2)), (39, (V.int .i64 i3))], ⟨[(0, (Blk.cells T_decl_judge [(V.sl .no T_api_Pair l4), (V.sl .no T_api_Pair l5), (V.sl .no T_decl_Keep l6), (V.sl .no T_decl_Break l7), (V.sl .no T_decl_Watch l8), (V.sl .no T_api_Proc l9), (V.sl .no T_api_Proc l10), (V.sl .no T_L_api_Var l11), (V.sl .no T_int l12), (V.sl .no T_L_api_Var l13), (V.sl .no T_int l14)] false)), (1005, (Blk.cells T_api_Pair [(V.str s15), (V.str s16), (V.str s17), (V.str s18)] false)), (1009, (Blk.cells T_api_Var [(V.str s19), (V.int .i64 i20), (V.int .i64 i21), (V.int .i64 i22), (V.int .i64 i23)] false)), (1011, (Blk.cells T_api_Var [(V.str s24), (V.int .i64 i25), (V.int .i64 i26), (V.int .i64 i27), (V.int .i64 i28)] false))], [], [], [], none⟩)
noncomputable def J1_1_1_1_1_1_1_1_1_0 (b0 : Bool) (l1 : List (List V)) (i2 i3 : Int) (l4 l5 l6 l7 l8 l9 l10 l11 l12 l13 l14 : List (List V)) (s15 s16 s17 s18 s19 : ByteArray) (i20 i21 i22 i23 : Int) (s24 : ByteArray) (i25 i26 i27 i28 : Int) : Option Res := joinAt Sp (den Sp) id Tryz.f93.ntmps (cAt (bodyOf Tryz.f93) [1, 1, 1, 1, 1, 1, 1, 1, 1, 0]) (kSeq (e [1, 1, 1, 1, 1, 1, 1, 1, 1, 1]) (K)) ([(0, (V.ref 0 0)), (5, (V.ref 1005 0)), (6, (V.bool b0)), (37, (V.sl .no T_api_Pair l1)), (38, (V.int .i64 i2)), (39, (V.int .i64 i3))], ⟨[(0, (Blk.cells T_decl_judge [(V.sl .no T_api_Pair l4), (V.sl .no T_api_Pair l5), (V.sl .no T_decl_Keep l6), (V.sl .no T_decl_Break l7), (V.sl .no T_decl_Watch l8), (V.sl .no T_api_Proc l9), (V.sl .no T_api_Proc l10), (V.sl .no T_L_api_Var l11), (V.sl .no T_int l12), (V.sl .no T_L_api_Var l13), (V.sl .no T_int l14)] false)), (1005, (Blk.cells T_api_Pair [(V.str s15), (V.str s16), (V.str s17), (V.str s18)] false)), (1009, (Blk.cells T_api_Var [(V.str s19), (V.int .i64 i20), (V.int .i64 i21), (V.int .i64 i22), (V.int .i64 i23)] false)), (1011, (Blk.cells T_api_Var [(V.str s24), (V.int .i64 i25), (V.int .i64 i26), (V.int .i64 i27), (V.int .i64 i28)] false))], [], [], [], none⟩)
theorem L1_1_1_1_0_1_0_eq (b0 : Bool) (l1 : List (List V)) (i2 i3 : Int) (l4 l5 l6 l7 l8 l9 l10 l11 l12 l13 l14 : List (List V)) (s15 s16 s17 s18 : ByteArray) : L1_1_1_1_0_1_0 b0 l1 i2 i3 l4 l5 l6 l7 l8 l9 l10 l11 l12 l13 l14 s15 s16 s17 s18 =
    (bif (decide (i3 < i2)) then (if (((0 : Int) ≤ i3) ∧ (i3 < (l1.length : Int))) then (V.asStr (List.getD (List.getD l1 (Int.toNat i3) []) 0 V.undef) (fun s72 => (V.asStr (List.getD (List.getD l1 (Int.toNat i3) []) 1 V.undef) (fun s73 => (V.asStr (List.getD (List.getD l1 (Int.toNat i3) []) 2 V.undef) (fun s74 => (V.asStr (List.getD (List.getD l1 (Int.toNat i3) []) 3 V.undef) (fun s75 => (bif b0 then (J1_1_1_1_0_1_0_0_1_1_1 l1 i2 i3 l4 l5 l6 l7 l8 l9 l10 l11 l12 l13 l14 s15 s16 s17 s18 s72 s73 s74 s75) else (bif (decide (s72 = s15)) then (J1_1_1_1_0_1_0_0_1_1_1v1 (decide (s73 = s16)) l1 i2 i3 l4 l5 l6 l7 l8 l9 l10 l11 l12 l13 l14 s15 s16 s17 s18 s72 s73 s74 s75) else (J1_1_1_1_0_1_0_0_1_1_1v1 false l1 i2 i3 l4 l5 l6 l7 l8 l9 l10 l11 l12 l13 l14 s15 s16 s17 s18 s72 s73 s74 s75))))))))))) else none) else (bif (!b0) then (some ⟨(Out.ret (V.int .i64 (90 : Int))), [(Blk.cells T_decl_judge [(V.sl .no T_api_Pair l4), (V.sl .no T_api_Pair l5), (V.sl .no T_decl_Keep l6), (V.sl .no T_decl_Break l7), (V.sl .no T_decl_Watch l8), (V.sl .no T_api_Proc l9), (V.sl .no T_api_Proc l10), (V.sl .no T_L_api_Var l11), (V.sl .no T_int l12), (V.sl .no T_L_api_Var l13), (V.sl .no T_int l14)] false)], none⟩) else ((den Sp decl_judge_variable.id [(V.ref 0 0), (V.int .i64 (0 : Int)), (V.str s15), (V.str s17)] [(Blk.cells T_decl_judge [(V.sl .no T_api_Pair l4), (V.sl .no T_api_Pair l5), (V.sl .no T_decl_Keep l6), (V.sl .no T_decl_Break l7), (V.sl .no T_decl_Watch l8), (V.sl .no T_api_Proc l9), (V.sl .no T_api_Proc l10), (V.sl .no T_L_api_Var l11), (V.sl .no T_int l12), (V.sl .no T_L_api_Var l13), (V.sl .no T_int l14)] false)] none)).bind (fun r73 => (Blk.asCells (List.getD (Res.bl r73) 0 (Blk.cells T_n0 [] true)) T_decl_judge 11 (fun rd74 => (V.asSl (rd74 0) T_api_Pair (fun es75 => (V.asSl (rd74 1) T_api_Pair (fun es76 => (V.asSl (rd74 2) T_decl_Keep (fun es77 => (V.asSl (rd74 3) T_decl_Break (fun es78 => (V.asSl (rd74 4) T_decl_Watch (fun es79 => (V.asSl (rd74 5) T_api_Proc (fun es80 => (V.asSl (rd74 6) T_api_Proc (fun es81 => (V.asSl (rd74 7) T_L_api_Var (fun es82 => (V.asSl (rd74 8) T_int (fun es83 => (V.asSl (rd74 9) T_L_api_Var (fun es84 => (V.asSl (rd74 10) T_int (fun es85 => (Res.onRet r73 (fun v86 => (V.asTup v86 2 (fun rd87 => (V.asAgg (rd87 0) 5 (fun rd88 => (V.asStr (rd88 0) (fun s89 => (V.asInt (rd88 1) .i64 (fun n90 => (V.asInt (rd88 2) .i64 (fun n91 => (V.asInt (rd88 3) .i64 (fun n92 => (V.asInt (rd88 4) .i64 (fun n93 => (V.asBool (rd87 1) (fun b94 => ((den Sp decl_judge_variable.id [(V.ref 0 0), (V.int .i64 (1 : Int)), (V.str s16), (V.str s18)] [(Blk.cells T_decl_judge [(V.sl .no T_api_Pair es75), (V.sl .no T_api_Pair es76), (V.sl .no T_decl_Keep es77), (V.sl .no T_decl_Break es78), (V.sl .no T_decl_Watch es79), (V.sl .no T_api_Proc es80), (V.sl .no T_api_Proc es81), (V.sl .no T_L_api_Var es82), (V.sl .no T_int es83), (V.sl .no T_L_api_Var es84), (V.sl .no T_int es85)] false)] none)).bind (fun r96 => (Blk.asCells (List.getD (Res.bl r96) 0 (Blk.cells T_n0 [] true)) T_decl_judge 11 (fun rd97 => (V.asSl (rd97 0) T_api_Pair (fun es98 => (V.asSl (rd97 1) T_api_Pair (fun es99 => (V.asSl (rd97 2) T_decl_Keep (fun es100 => (V.asSl (rd97 3) T_decl_Break (fun es101 => (V.asSl (rd97 4) T_decl_Watch (fun es102 => (V.asSl (rd97 5) T_api_Proc (fun es103 => (V.asSl (rd97 6) T_api_Proc (fun es104 => (V.asSl (rd97 7) T_L_api_Var (fun es105 => (V.asSl (rd97 8) T_int (fun es106 => (V.asSl (rd97 9) T_L_api_Var (fun es107 => (V.asSl (rd97 10) T_int (fun es108 => (Res.onRet r96 (fun v109 => (V.asTup v109 2 (fun rd110 => (V.asAgg (rd110 0) 5 (fun rd111 => (V.asStr (rd111 0) (fun s112 => (V.asInt (rd111 1) .i64 (fun n113 => (V.asInt (rd111 2) .i64 (fun n114 => (V.asInt (rd111 3) .i64 (fun n115 => (V.asInt (rd111 4) .i64 (fun n116 => (V.asBool (rd110 1) (fun b117 => (bif (!b94) then (some ⟨(Out.ret (V.int .i64 (40 : Int))), [(Blk.cells T_decl_judge [(V.sl .no T_api_Pair es98), (V.sl .no T_api_Pair es99), (V.sl .no T_decl_Keep es100), (V.sl .no T_decl_Break es101), (V.sl .no T_decl_Watch es102), (V.sl .no T_api_Proc es103), (V.sl .no T_api_Proc es104), (V.sl .no T_L_api_Var es105), (V.sl .no T_int es106), (V.sl .no T_L_api_Var es107), (V.sl .no T_int es108)] false)], none⟩) else (bif (!b117) then (some ⟨(Out.ret (V.int .i64 (40 : Int))), [(Blk.cells T_decl_judge [(V.sl .no T_api_Pair es98), (V.sl .no T_api_Pair es99), (V.sl .no T_decl_Keep es100), (V.sl .no T_decl_Break es101), (V.sl .no T_decl_Watch es102), (V.sl .no T_api_Proc es103), (V.sl .no T_api_Proc es104), (V.sl .no T_L_api_Var es105), (V.sl .no T_int es106), (V.sl .no T_L_api_Var es107), (V.sl .no T_int es108)] false)], none⟩) else (bif (n90 != n113) then (J1_1_1_1_1_1_1_1_0_0_1_1_1_0_0 b0 l1 i2 i3 es98 es99 es100 es101 es102 es103 es104 es105 es106 es107 es108 s15 s16 s17 s18 s89 n90 n91 n92 n93 s112 n113 n114 n115 n116) else (bif (n91 != n114) then (J1_1_1_1_1_1_1_1_0_0_1_1_1_0_0 b0 l1 i2 i3 es98 es99 es100 es101 es102 es103 es104 es105 es106 es107 es108 s15 s16 s17 s18 s89 n90 n91 n92 n93 s112 n113 n114 n115 n116) else (J1_1_1_1_1_1_1_1_1_0 b0 l1 i2 i3 es98 es99 es100 es101 es102 es103 es104 es105 es106 es107 es108 s15 s16 s17 s18 s89 n90 n91 n92 n93 s112 n113 n114 n115 n116))))))))))))))))))))))))))))))))))))))))))))))))))))))))))))))))))))))))))))))))))))))))))))) := (LP_eq ..).trans (by kernel_rfl)
theorem J1_1_1_1_0_1_0_0_1_1_1_eq (l0 : List (List V)) (i1 i2 : Int) (l3 l4 l5 l6 l7 l8 l9 l10 l11 l12 l13 : List (List V)) (s14 s15 s16 s17 s18 s19 s20 s21 : ByteArray) : J1_1_1_1_0_1_0_0_1_1_1 l0 i1 i2 l3 l4 l5 l6 l7 l8 l9 l10 l11 l12 l13 s14 s15 s16 s17 s18 s19 s20 s21 =
    (L1_1_1_1_0_1_0 true l0 i1 (IntKind.wrap .i64 (i2 + (1 : Int))) l3 l4 l5 l6 l7 l8 l9 l10 l11 l12 l13 s14 s15 s16 s17) := (joinAt_eq ..).trans (by kernel_rfl)
theorem J1_1_1_1_0_1_0_0_1_1_1v1_eq (b0 : Bool) (l1 : List (List V)) (i2 i3 : Int) (l4 l5 l6 l7 l8 l9 l10 l11 l12 l13 l14 : List (List V)) (s15 s16 s17 s18 s19 s20 s21 s22 : ByteArray) : J1_1_1_1_0_1_0_0_1_1_1v1 b0 l1 i2 i3 l4 l5 l6 l7 l8 l9 l10 l11 l12 l13 l14 s15 s16 s17 s18 s19 s20 s21 s22 =
    (L1_1_1_1_0_1_0 b0 l1 i2 (IntKind.wrap .i64 (i3 + (1 : Int))) l4 l5 l6 l7 l8 l9 l10 l11 l12 l13 l14 s15 s16 s17 s18) := (joinAt_eq ..).trans (by kernel_rfl)
theorem J1_1_1_1_1_1_1_1_0_0_1_1_1_0_0_eq (b0 : Bool) (l1 : List (List V)) (i2 i3 : Int) (l4 l5 l6 l7 l8 l9 l10 l11 l12 l13 l14 : List (List V)) (s15 s16 s17 s18 s19 : ByteArray) (i20 i21 i22 i23 : Int) (s24 : ByteArray) (i25 i26 i27 i28 : Int) : J1_1_1_1_1_1_1_1_0_0_1_1_1_0_0 b0 l1 i2 i3 l4 l5 l6 l7 l8 l9 l10 l11 l12 l13 l14 s15 s16 s17 s18 s19 i20 i21 i22 i23 s24 i25 i26 i27 i28 =
    (some ⟨(Out.ret (V.int .i64 (41 : Int))), [(Blk.cells T_decl_judge [(V.sl .no T_api_Pair l4), (V.sl .no T_api_Pair l5), (V.sl .no T_decl_Keep l6), (V.sl .no T_decl_Break l7), (V.sl .no T_decl_Watch l8), (V.sl .no T_api_Proc l9), (V.sl .no T_api_Proc l10), (V.sl .no T_L_api_Var l11), (V.sl .no T_int l12), (V.sl .no T_L_api_Var l13), (V.sl .no T_int l14)] false)], none⟩) := (joinAt_eq ..).trans (by kernel_rfl)
theorem J1_1_1_1_1_1_1_1_1_0_eq (b0 : Bool) (l1 : List (List V)) (i2 i3 : Int) (l4 l5 l6 l7 l8 l9 l10 l11 l12 l13 l14 : List (List V)) (s15 s16 s17 s18 s19 : ByteArray) (i20 i21 i22 i23 : Int) (s24 : ByteArray) (i25 i26 i27 i28 : Int) : J1_1_1_1_1_1_1_1_1_0 b0 l1 i2 i3 l4 l5 l6 l7 l8 l9 l10 l11 l12 l13 l14 s15 s16 s17 s18 s19 i20 i21 i22 i23 s24 i25 i26 i27 i28 =
    (some ⟨(Out.ret (V.int .i64 (0 : Int))), [(Blk.cells T_decl_judge [(V.sl .no T_api_Pair l4), (V.sl .no T_api_Pair l5), (V.sl .no T_decl_Keep l6), (V.sl .no T_decl_Break l7), (V.sl .no T_decl_Watch l8), (V.sl .no T_api_Proc l9), (V.sl .no T_api_Proc l10), (V.sl .no T_L_api_Var l11), (V.sl .no T_int l12), (V.sl .no T_L_api_Var l13), (V.sl .no T_int l14)] false)], none⟩) := (joinAt_eq ..).trans (by kernel_rfl)
theorem eq (m0_0 m0_1 m0_2 m0_3 m0_4 m0_5 m0_6 m0_7 m0_8 m0_9 m0_10 : List (List V)) (a1 : Int) : den Sp id [(V.ref 0 0), (V.int .i64 a1)] [(Blk.cells T_decl_judge [(V.sl .no T_api_Pair m0_0), (V.sl .no T_api_Pair m0_1), (V.sl .no T_decl_Keep m0_2), (V.sl .no T_decl_Break m0_3), (V.sl .no T_decl_Watch m0_4), (V.sl .no T_api_Proc m0_5), (V.sl .no T_api_Proc m0_6), (V.sl .no T_L_api_Var m0_7), (V.sl .no T_int m0_8), (V.sl .no T_L_api_Var m0_9), (V.sl .no T_int m0_10)] false)] none =
    (if (((0 : Int) ≤ a1) ∧ (a1 < (m0_1.length : Int))) then (V.asStr (List.getD (List.getD m0_1 (Int.toNat a1) []) 0 V.undef) (fun s14 => (V.asStr (List.getD (List.getD m0_1 (Int.toNat a1) []) 1 V.undef) (fun s15 => (V.asStr (List.getD (List.getD m0_1 (Int.toNat a1) []) 2 V.undef) (fun s16 => (V.asStr (List.getD (List.getD m0_1 (Int.toNat a1) []) 3 V.undef) (fun s17 => ((den Sp decl_judge_proc.id [(V.ref 0 0), (V.int .i64 (0 : Int)), (V.str s14)] [(Blk.cells T_decl_judge [(V.sl .no T_api_Pair m0_0), (V.sl .no T_api_Pair m0_1), (V.sl .no T_decl_Keep m0_2), (V.sl .no T_decl_Break m0_3), (V.sl .no T_decl_Watch m0_4), (V.sl .no T_api_Proc m0_5), (V.sl .no T_api_Proc m0_6), (V.sl .no T_L_api_Var m0_7), (V.sl .no T_int m0_8), (V.sl .no T_L_api_Var m0_9), (V.sl .no T_int m0_10)] false)] none)).bind (fun r19 => (Blk.asCells (List.getD (Res.bl r19) 0 (Blk.cells T_n0 [] true)) T_decl_judge 11 (fun rd20 => (V.asSl (rd20 0) T_api_Pair (fun es21 => (V.asSl (rd20 1) T_api_Pair (fun es22 => (V.asSl (rd20 2) T_decl_Keep (fun es23 => (V.asSl (rd20 3) T_decl_Break (fun es24 => (V.asSl (rd20 4) T_decl_Watch (fun es25 => (V.asSl (rd20 5) T_api_Proc (fun es26 => (V.asSl (rd20 6) T_api_Proc (fun es27 => (V.asSl (rd20 7) T_L_api_Var (fun es28 => (V.asSl (rd20 8) T_int (fun es29 => (V.asSl (rd20 9) T_L_api_Var (fun es30 => (V.asSl (rd20 10) T_int (fun es31 => (Res.onRet r19 (fun v32 => (V.asInt v32 .i64 (fun n33 => (bif (decide (n33 < (0 : Int))) then (some ⟨(Out.ret (V.int .i64 (40 : Int))), [(Blk.cells T_decl_judge [(V.sl .no T_api_Pair es21), (V.sl .no T_api_Pair es22), (V.sl .no T_decl_Keep es23), (V.sl .no T_decl_Break es24), (V.sl .no T_decl_Watch es25), (V.sl .no T_api_Proc es26), (V.sl .no T_api_Proc es27), (V.sl .no T_L_api_Var es28), (V.sl .no T_int es29), (V.sl .no T_L_api_Var es30), (V.sl .no T_int es31)] false)], none⟩) else ((den Sp decl_judge_proc.id [(V.ref 0 0), (V.int .i64 (1 : Int)), (V.str s15)] [(Blk.cells T_decl_judge [(V.sl .no T_api_Pair es21), (V.sl .no T_api_Pair es22), (V.sl .no T_decl_Keep es23), (V.sl .no T_decl_Break es24), (V.sl .no T_decl_Watch es25), (V.sl .no T_api_Proc es26), (V.sl .no T_api_Proc es27), (V.sl .no T_L_api_Var es28), (V.sl .no T_int es29), (V.sl .no T_L_api_Var es30), (V.sl .no T_int es31)] false)] none)).bind (fun r34 => (Blk.asCells (List.getD (Res.bl r34) 0 (Blk.cells T_n0 [] true)) T_decl_judge 11 (fun rd35 => (V.asSl (rd35 0) T_api_Pair (fun es36 => (V.asSl (rd35 1) T_api_Pair (fun es37 => (V.asSl (rd35 2) T_decl_Keep (fun es38 => (V.asSl (rd35 3) T_decl_Break (fun es39 => (V.asSl (rd35 4) T_decl_Watch (fun es40 => (V.asSl (rd35 5) T_api_Proc (fun es41 => (V.asSl (rd35 6) T_api_Proc (fun es42 => (V.asSl (rd35 7) T_L_api_Var (fun es43 => (V.asSl (rd35 8) T_int (fun es44 => (V.asSl (rd35 9) T_L_api_Var (fun es45 => (V.asSl (rd35 10) T_int (fun es46 => (Res.onRet r34 (fun v47 => (V.asInt v47 .i64 (fun n48 => (bif (decide (n48 < (0 : Int))) then (some ⟨(Out.ret (V.int .i64 (40 : Int))), [(Blk.cells T_decl_judge [(V.sl .no T_api_Pair es36), (V.sl .no T_api_Pair es37), (V.sl .no T_decl_Keep es38), (V.sl .no T_decl_Break es39), (V.sl .no T_decl_Watch es40), (V.sl .no T_api_Proc es41), (V.sl .no T_api_Proc es42), (V.sl .no T_L_api_Var es43), (V.sl .no T_int es44), (V.sl .no T_L_api_Var es45), (V.sl .no T_int es46)] false)], none⟩) else (L1_1_1_1_0_1_0 false es36 (es36.length : Int) (0 : Int) es36 es37 es38 es39 es40 es41 es42 es43 es44 es45 es46 s14 s15 s16 s17))))))))))))))))))))))))))))))))))))))))))))))))))))))))))))))))))))) else none) := (den_eq ..).trans (by kernel_rfl)
end decl_judge_same
namespace decl_judge_item
noncomputable abbrev e (p : List Nat) := ev Sp (den Sp) id Tryz.f49.ntmps (cAt (bodyOf Tryz.f49) p)
noncomputable abbrev cn (n0 : List Nat) := canon Sp id n0
noncomputable abbrev K : K := kFin Sp (den Sp) Tryz.f49 1
theorem eq (m0_0 m0_1 m0_2 m0_3 m0_4 m0_5 m0_6 m0_7 m0_8 m0_9 m0_10 : List (List V)) (a1 a2 : Int) : den Sp id [(V.ref 0 0), (V.int .i64 a1), (V.int .i64 a2)] [(Blk.cells T_decl_judge [(V.sl .no T_api_Pair m0_0), (V.sl .no T_api_Pair m0_1), (V.sl .no T_decl_Keep m0_2), (V.sl .no T_decl_Break m0_3), (V.sl .no T_decl_Watch m0_4), (V.sl .no T_api_Proc m0_5), (V.sl .no T_api_Proc m0_6), (V.sl .no T_L_api_Var m0_7), (V.sl .no T_int m0_8), (V.sl .no T_L_api_Var m0_9), (V.sl .no T_int m0_10)] false)] none =
    (bif (a1 == (1 : Int)) then ((den Sp decl_judge_pair.id [(V.ref 0 0), (V.int .i64 a2)] [(Blk.cells T_decl_judge [(V.sl .no T_api_Pair m0_0), (V.sl .no T_api_Pair m0_1), (V.sl .no T_decl_Keep m0_2), (V.sl .no T_decl_Break m0_3), (V.sl .no T_decl_Watch m0_4), (V.sl .no T_api_Proc m0_5), (V.sl .no T_api_Proc m0_6), (V.sl .no T_L_api_Var m0_7), (V.sl .no T_int m0_8), (V.sl .no T_L_api_Var m0_9), (V.sl .no T_int m0_10)] false)] none)).bind (fun r17 => (Blk.asCells (List.getD (Res.bl r17) 0 (Blk.cells T_n0 [] true)) T_decl_judge 11 (fun rd18 => (V.asSl (rd18 0) T_api_Pair (fun es19 => (V.asSl (rd18 1) T_api_Pair (fun es20 => (V.asSl (rd18 2) T_decl_Keep (fun es21 => (V.asSl (rd18 3) T_decl_Break (fun es22 => (V.asSl (rd18 4) T_decl_Watch (fun es23 => (V.asSl (rd18 5) T_api_Proc (fun es24 => (V.asSl (rd18 6) T_api_Proc (fun es25 => (V.asSl (rd18 7) T_L_api_Var (fun es26 => (V.asSl (rd18 8) T_int (fun es27 => (V.asSl (rd18 9) T_L_api_Var (fun es28 => (V.asSl (rd18 10) T_int (fun es29 => (Res.onRet r17 (fun v30 => (V.asInt v30 .i64 (fun n31 => (some ⟨(Out.ret (V.int .i64 n31)), [(Blk.cells T_decl_judge [(V.sl .no T_api_Pair es19), (V.sl .no T_api_Pair es20), (V.sl .no T_decl_Keep es21), (V.sl .no T_decl_Break es22), (V.sl .no T_decl_Watch es23), (V.sl .no T_api_Proc es24), (V.sl .no T_api_Proc es25), (V.sl .no T_L_api_Var es26), (V.sl .no T_int es27), (V.sl .no T_L_api_Var es28), (V.sl .no T_int es29)] false)], none⟩)))))))))))))))))))))))))))))) else (bif (a1 == (2 : Int)) then ((den Sp decl_judge_same.id [(V.ref 0 0), (V.int .i64 a2)] [(Blk.cells T_decl_judge [(V.sl .no T_api_Pair m0_0), (V.sl .no T_api_Pair m0_1), (V.sl .no T_decl_Keep m0_2), (V.sl .no T_decl_Break m0_3), (V.sl .no T_decl_Watch m0_4), (V.sl .no T_api_Proc m0_5), (V.sl .no T_api_Proc m0_6), (V.sl .no T_L_api_Var m0_7), (V.sl .no T_int m0_8), (V.sl .no T_L_api_Var m0_9), (V.sl .no T_int m0_10)] false)] none)).bind (fun r18 => (Blk.asCells (List.getD (Res.bl r18) 0 (Blk.cells T_n0 [] true)) T_decl_judge 11 (fun rd19 => (V.asSl (rd19 0) T_api_Pair (fun es20 => (V.asSl (rd19 1) T_api_Pair (fun es21 => (V.asSl (rd19 2) T_decl_Keep (fun es22 => (V.asSl (rd19 3) T_decl_Break (fun es23 => (V.asSl (rd19 4) T_decl_Watch (fun es24 => (V.asSl (rd19 5) T_api_Proc (fun es25 => (V.asSl (rd19 6) T_api_Proc (fun es26 => (V.asSl (rd19 7) T_L_api_Var (fun es27 => (V.asSl (rd19 8) T_int (fun es28 => (V.asSl (rd19 9) T_L_api_Var (fun es29 => (V.asSl (rd19 10) T_int (fun es30 => (Res.onRet r18 (fun v31 => (V.asInt v31 .i64 (fun n32 => (some ⟨(Out.ret (V.int .i64 n32)), [(Blk.cells T_decl_judge [(V.sl .no T_api_Pair es20), (V.sl .no T_api_Pair es21), (V.sl .no T_decl_Keep es22), (V.sl .no T_decl_Break es23), (V.sl .no T_decl_Watch es24), (V.sl .no T_api_Proc es25), (V.sl .no T_api_Proc es26), (V.sl .no T_L_api_Var es27), (V.sl .no T_int es28), (V.sl .no T_L_api_Var es29), (V.sl .no T_int es30)] false)], none⟩)))))))))))))))))))))))))))))) else (bif (a1 == (3 : Int)) then ((den Sp decl_judge_keep.id [(V.ref 0 0), (V.int .i64 a2)] [(Blk.cells T_decl_judge [(V.sl .no T_api_Pair m0_0), (V.sl .no T_api_Pair m0_1), (V.sl .no T_decl_Keep m0_2), (V.sl .no T_decl_Break m0_3), (V.sl .no T_decl_Watch m0_4), (V.sl .no T_api_Proc m0_5), (V.sl .no T_api_Proc m0_6), (V.sl .no T_L_api_Var m0_7), (V.sl .no T_int m0_8), (V.sl .no T_L_api_Var m0_9), (V.sl .no T_int m0_10)] false)] none)).bind (fun r19 => (Blk.asCells (List.getD (Res.bl r19) 0 (Blk.cells T_n0 [] true)) T_decl_judge 11 (fun rd20 => (V.asSl (rd20 0) T_api_Pair (fun es21 => (V.asSl (rd20 1) T_api_Pair (fun es22 => (V.asSl (rd20 2) T_decl_Keep (fun es23 => (V.asSl (rd20 3) T_decl_Break (fun es24 => (V.asSl (rd20 4) T_decl_Watch (fun es25 => (V.asSl (rd20 5) T_api_Proc (fun es26 => (V.asSl (rd20 6) T_api_Proc (fun es27 => (V.asSl (rd20 7) T_L_api_Var (fun es28 => (V.asSl (rd20 8) T_int (fun es29 => (V.asSl (rd20 9) T_L_api_Var (fun es30 => (V.asSl (rd20 10) T_int (fun es31 => (Res.onRet r19 (fun v32 => (V.asInt v32 .i64 (fun n33 => (some ⟨(Out.ret (V.int .i64 n33)), [(Blk.cells T_decl_judge [(V.sl .no T_api_Pair es21), (V.sl .no T_api_Pair es22), (V.sl .no T_decl_Keep es23), (V.sl .no T_decl_Break es24), (V.sl .no T_decl_Watch es25), (V.sl .no T_api_Proc es26), (V.sl .no T_api_Proc es27), (V.sl .no T_L_api_Var es28), (V.sl .no T_int es29), (V.sl .no T_L_api_Var es30), (V.sl .no T_int es31)] false)], none⟩)))))))))))))))))))))))))))))) else (bif (a1 == (4 : Int)) then ((den Sp decl_judge_stop.id [(V.ref 0 0), (V.int .i64 a2)] [(Blk.cells T_decl_judge [(V.sl .no T_api_Pair m0_0), (V.sl .no T_api_Pair m0_1), (V.sl .no T_decl_Keep m0_2), (V.sl .no T_decl_Break m0_3), (V.sl .no T_decl_Watch m0_4), (V.sl .no T_api_Proc m0_5), (V.sl .no T_api_Proc m0_6), (V.sl .no T_L_api_Var m0_7), (V.sl .no T_int m0_8), (V.sl .no T_L_api_Var m0_9), (V.sl .no T_int m0_10)] false)] none)).bind (fun r20 => (Blk.asCells (List.getD (Res.bl r20) 0 (Blk.cells T_n0 [] true)) T_decl_judge 11 (fun rd21 => (V.asSl (rd21 0) T_api_Pair (fun es22 => (V.asSl (rd21 1) T_api_Pair (fun es23 => (V.asSl (rd21 2) T_decl_Keep (fun es24 => (V.asSl (rd21 3) T_decl_Break (fun es25 => (V.asSl (rd21 4) T_decl_Watch (fun es26 => (V.asSl (rd21 5) T_api_Proc (fun es27 => (V.asSl (rd21 6) T_api_Proc (fun es28 => (V.asSl (rd21 7) T_L_api_Var (fun es29 => (V.asSl (rd21 8) T_int (fun es30 => (V.asSl (rd21 9) T_L_api_Var (fun es31 => (V.asSl (rd21 10) T_int (fun es32 => (Res.onRet r20 (fun v33 => (V.asInt v33 .i64 (fun n34 => (some ⟨(Out.ret (V.int .i64 n34)), [(Blk.cells T_decl_judge [(V.sl .no T_api_Pair es22), (V.sl .no T_api_Pair es23), (V.sl .no T_decl_Keep es24), (V.sl .no T_decl_Break es25), (V.sl .no T_decl_Watch es26), (V.sl .no T_api_Proc es27), (V.sl .no T_api_Proc es28), (V.sl .no T_L_api_Var es29), (V.sl .no T_int es30), (V.sl .no T_L_api_Var es31), (V.sl .no T_int es32)] false)], none⟩)))))))))))))))))))))))))))))) else ((den Sp decl_judge_watch.id [(V.ref 0 0), (V.int .i64 a2)] [(Blk.cells T_decl_judge [(V.sl .no T_api_Pair m0_0), (V.sl .no T_api_Pair m0_1), (V.sl .no T_decl_Keep m0_2), (V.sl .no T_decl_Break m0_3), (V.sl .no T_decl_Watch m0_4), (V.sl .no T_api_Proc m0_5), (V.sl .no T_api_Proc m0_6), (V.sl .no T_L_api_Var m0_7), (V.sl .no T_int m0_8), (V.sl .no T_L_api_Var m0_9), (V.sl .no T_int m0_10)] false)] none)).bind (fun r20 => (Blk.asCells (List.getD (Res.bl r20) 0 (Blk.cells T_n0 [] true)) T_decl_judge 11 (fun rd21 => (V.asSl (rd21 0) T_api_Pair (fun es22 => (V.asSl (rd21 1) T_api_Pair (fun es23 => (V.asSl (rd21 2) T_decl_Keep (fun es24 => (V.asSl (rd21 3) T_decl_Break (fun es25 => (V.asSl (rd21 4) T_decl_Watch (fun es26 => (V.asSl (rd21 5) T_api_Proc (fun es27 => (V.asSl (rd21 6) T_api_Proc (fun es28 => (V.asSl (rd21 7) T_L_api_Var (fun es29 => (V.asSl (rd21 8) T_int (fun es30 => (V.asSl (rd21 9) T_L_api_Var (fun es31 => (V.asSl (rd21 10) T_int (fun es32 => (Res.onRet r20 (fun v33 => (V.asInt v33 .i64 (fun n34 => (some ⟨(Out.ret (V.int .i64 n34)), [(Blk.cells T_decl_judge [(V.sl .no T_api_Pair es22), (V.sl .no T_api_Pair es23), (V.sl .no T_decl_Keep es24), (V.sl .no T_decl_Break es25), (V.sl .no T_decl_Watch es26), (V.sl .no T_api_Proc es27), (V.sl .no T_api_Proc es28), (V.sl .no T_L_api_Var es29), (V.sl .no T_int es30), (V.sl .no T_L_api_Var es31), (V.sl .no T_int es32)] false)], none⟩)))))))))))))))))))))))))))))))))) := (den_eq ..).trans (by kernel_rfl)
end decl_judge_item
namespace decl_Check
noncomputable abbrev e (p : List Nat) := ev Sp (den Sp) id Tryz.f22.ntmps (cAt (bodyOf Tryz.f22) p)
noncomputable abbrev cn (n0 : List Nat) := canon Sp id n0
noncomputable abbrev K : K := kFin Sp (den Sp) Tryz.f22 0
noncomputable def L1_1_1_0_1_0 (l0 l1 : List (List V)) (i2 i3 i4 i5 i6 : Int) (l7 l8 l9 l10 l11 l12 l13 l14 l15 l16 l17 l18 l19 l20 l21 l22 l23 l24 : List (List V)) : Option Res := LP (e [1, 1, 1, 0, 1, 0, 0]) (cn [1003, 1004, 1005, 1006, 1023]) (kBlk 2 (kSeq (e [1, 1, 1, 1]) (K))) ([(3, (V.ref 1003 0)), (6, (V.ref 1006 0)), (8, (V.ref 1023 0)), (14, V.undef), (27, (V.agg [(V.sl .no T_api_Proc l0), (V.sl .no T_api_Proc l1)])), (28, (V.int .i64 (2 : Int))), (68, (V.agg [(V.int .i64 (0 : Int)), (V.int .i64 i2), (V.int .i64 i3), (V.int .i64 i4), (V.int .i64 i5), (V.int .i64 i6)])), (69, (V.int .i64 (0 : Int))), (73, V.undef), (74, V.undef)], ⟨[(1003, (Blk.cells T_decl_File [(V.sl .no T_api_Pair l7), (V.sl .no T_api_Pair l8), (V.sl .no T_decl_Keep l9), (V.sl .no T_decl_Break l10), (V.sl .no T_decl_Watch l11)] false)), (1004, (Blk.cells T_api_Prog [(V.sl .no T_api_Proc l12)] false)), (1005, (Blk.cells T_api_Prog [(V.sl .no T_api_Proc l13)] false)), (1006, (Blk.cells T_decl_Spot [(V.int .i64 (0 : Int)), (V.int .i64 (0 : Int))] false)), (1023, (Blk.cells T_decl_judge [(V.sl .no T_api_Pair l14), (V.sl .no T_api_Pair l15), (V.sl .no T_decl_Keep l16), (V.sl .no T_decl_Break l17), (V.sl .no T_decl_Watch l18), (V.sl .no T_api_Proc l19), (V.sl .no T_api_Proc l20), (V.sl .no T_L_api_Var l21), (V.sl .no T_int l22), (V.sl .no T_L_api_Var l23), (V.sl .no T_int l24)] false))], [], [], [], none⟩)
noncomputable def L1_1_1_0_1_0_0_1_1_0_0_1_1_0 (i0 : Int) (l1 l2 : List (List V)) (i3 i4 i5 i6 i7 i8 i9 i10 : Int) (l11 l12 l13 l14 l15 l16 l17 l18 l19 l20 l21 l22 l23 l24 l25 l26 l27 l28 : List (List V)) : Option Res := LP (e [1, 1, 1, 0, 1, 0, 0, 1, 1, 0, 0, 1, 1, 0, 0]) (cn [1003, 1004, 1005, 1006, 1023]) (kBlk 4 (kBlk 3 (kSeq (e [1, 1, 1, 0, 1, 0, 0, 1, 1, 1]) (kLp (e [1, 1, 1, 0, 1, 0, 0]) (cn [1003, 1004, 1005, 1006, 1023]) (kBlk 2 (kSeq (e [1, 1, 1, 1]) (K))))))) ([(3, (V.ref 1003 0)), (6, (V.ref 1006 0)), (8, (V.ref 1023 0)), (14, (V.int .i64 i0)), (27, (V.agg [(V.sl .no T_api_Proc l1), (V.sl .no T_api_Proc l2)])), (28, (V.int .i64 (2 : Int))), (68, (V.agg [(V.int .i64 (0 : Int)), (V.int .i64 i3), (V.int .i64 i4), (V.int .i64 i5), (V.int .i64 i6), (V.int .i64 i7)])), (69, (V.int .i64 i8)), (73, (V.int .i64 i9)), (74, (V.int .i64 i10))], ⟨[(1003, (Blk.cells T_decl_File [(V.sl .no T_api_Pair l11), (V.sl .no T_api_Pair l12), (V.sl .no T_decl_Keep l13), (V.sl .no T_decl_Break l14), (V.sl .no T_decl_Watch l15)] false)), (1004, (Blk.cells T_api_Prog [(V.sl .no T_api_Proc l16)] false)), (1005, (Blk.cells T_api_Prog [(V.sl .no T_api_Proc l17)] false)), (1006, (Blk.cells T_decl_Spot [(V.int .i64 (0 : Int)), (V.int .i64 (0 : Int))] false)), (1023, (Blk.cells T_decl_judge [(V.sl .no T_api_Pair l18), (V.sl .no T_api_Pair l19), (V.sl .no T_decl_Keep l20), (V.sl .no T_decl_Break l21), (V.sl .no T_decl_Watch l22), (V.sl .no T_api_Proc l23), (V.sl .no T_api_Proc l24), (V.sl .no T_L_api_Var l25), (V.sl .no T_int l26), (V.sl .no T_L_api_Var l27), (V.sl .no T_int l28)] false))], [], [], [], none⟩)
noncomputable def L1_1_1_0_1_0v1 (i0 : Int) (l1 l2 : List (List V)) (i3 i4 i5 i6 i7 i8 i9 i10 : Int) (l11 l12 l13 l14 l15 l16 l17 l18 l19 l20 l21 l22 l23 l24 l25 l26 l27 l28 : List (List V)) : Option Res := LP (e [1, 1, 1, 0, 1, 0, 0]) (cn [1003, 1004, 1005, 1006, 1023]) (kBlk 2 (kSeq (e [1, 1, 1, 1]) (K))) ([(3, (V.ref 1003 0)), (6, (V.ref 1006 0)), (8, (V.ref 1023 0)), (14, (V.int .i64 i0)), (27, (V.agg [(V.sl .no T_api_Proc l1), (V.sl .no T_api_Proc l2)])), (28, (V.int .i64 (2 : Int))), (68, (V.agg [(V.int .i64 (0 : Int)), (V.int .i64 i3), (V.int .i64 i4), (V.int .i64 i5), (V.int .i64 i6), (V.int .i64 i7)])), (69, (V.int .i64 i8)), (73, (V.int .i64 i9)), (74, (V.int .i64 i10))], ⟨[(1003, (Blk.cells T_decl_File [(V.sl .no T_api_Pair l11), (V.sl .no T_api_Pair l12), (V.sl .no T_decl_Keep l13), (V.sl .no T_decl_Break l14), (V.sl .no T_decl_Watch l15)] false)), (1004, (Blk.cells T_api_Prog [(V.sl .no T_api_Proc l16)] false)), (1005, (Blk.cells T_api_Prog [(V.sl .no T_api_Proc l17)] false)), (1006, (Blk.cells T_decl_Spot [(V.int .i64 (0 : Int)), (V.int .i64 (0 : Int))] false)), (1023, (Blk.cells T_decl_judge [(V.sl .no T_api_Pair l18), (V.sl .no T_api_Pair l19), (V.sl .no T_decl_Keep l20), (V.sl .no T_decl_Break l21), (V.sl .no T_decl_Watch l22), (V.sl .no T_api_Proc l23), (V.sl .no T_api_Proc l24), (V.sl .no T_L_api_Var l25), (V.sl .no T_int l26), (V.sl .no T_L_api_Var l27), (V.sl .no T_int l28)] false))], [], [], [], none⟩)
theorem L1_1_1_0_1_0_eq (l0 l1 : List (List V)) (i2 i3 i4 i5 i6 : Int) (l7 l8 l9 l10 l11 l12 l13 l14 l15 l16 l17 l18 l19 l20 l21 l22 l23 l24 : List (List V)) : L1_1_1_0_1_0 l0 l1 i2 i3 i4 i5 i6 l7 l8 l9 l10 l11 l12 l13 l14 l15 l16 l17 l18 l19 l20 l21 l22 l23 l24 =
    (L1_1_1_0_1_0_0_1_1_0_0_1_1_0 (0 : Int) l0 l1 i2 i3 i4 i5 i6 (0 : Int) (0 : Int) (0 : Int) l7 l8 l9 l10 l11 l12 l13 l14 l15 l16 l17 l18 l19 l20 l21 l22 l23 l24) := (LP_eq ..).trans (by kernel_rfl)
theorem L1_1_1_0_1_0_0_1_1_0_0_1_1_0_eq (i0 : Int) (l1 l2 : List (List V)) (i3 i4 i5 i6 i7 i8 i9 i10 : Int) (l11 l12 l13 l14 l15 l16 l17 l18 l19 l20 l21 l22 l23 l24 l25 l26 l27 l28 : List (List V)) : L1_1_1_0_1_0_0_1_1_0_0_1_1_0 i0 l1 l2 i3 i4 i5 i6 i7 i8 i9 i10 l11 l12 l13 l14 l15 l16 l17 l18 l19 l20 l21 l22 l23 l24 l25 l26 l27 l28 =
    (bif (decide (i10 < i9)) then ((den Sp decl_judge_item.id [(V.ref 0 0), (V.int .i64 i0), (V.int .i64 i10)] [(Blk.cells T_decl_judge [(V.sl .no T_api_Pair l18), (V.sl .no T_api_Pair l19), (V.sl .no T_decl_Keep l20), (V.sl .no T_decl_Break l21), (V.sl .no T_decl_Watch l22), (V.sl .no T_api_Proc l23), (V.sl .no T_api_Proc l24), (V.sl .no T_L_api_Var l25), (V.sl .no T_int l26), (V.sl .no T_L_api_Var l27), (V.sl .no T_int l28)] false)] none)).bind (fun r104 => (Blk.asCells (List.getD (Res.bl r104) 0 (Blk.cells T_n0 [] true)) T_decl_judge 11 (fun rd105 => (V.asSl (rd105 0) T_api_Pair (fun es106 => (V.asSl (rd105 1) T_api_Pair (fun es107 => (V.asSl (rd105 2) T_decl_Keep (fun es108 => (V.asSl (rd105 3) T_decl_Break (fun es109 => (V.asSl (rd105 4) T_decl_Watch (fun es110 => (V.asSl (rd105 5) T_api_Proc (fun es111 => (V.asSl (rd105 6) T_api_Proc (fun es112 => (V.asSl (rd105 7) T_L_api_Var (fun es113 => (V.asSl (rd105 8) T_int (fun es114 => (V.asSl (rd105 9) T_L_api_Var (fun es115 => (V.asSl (rd105 10) T_int (fun es116 => (Res.onRet r104 (fun v117 => (V.asInt v117 .i64 (fun n118 => (bif (n118 != (0 : Int)) then (some ⟨(Out.ret (V.tup [(V.agg [(V.int .i64 i0), (V.int .i64 i10)]), (V.int .i64 n118)])), [], none⟩) else (L1_1_1_0_1_0_0_1_1_0_0_1_1_0 i0 l1 l2 i3 i4 i5 i6 i7 i8 i9 (IntKind.wrap .i64 (i10 + (1 : Int))) l11 l12 l13 l14 l15 l16 l17 es106 es107 es108 es109 es110 es111 es112 es113 es114 es115 es116))))))))))))))))))))))))))))))) else (L1_1_1_0_1_0v1 i0 l1 l2 i3 i4 i5 i6 i7 (IntKind.wrap .i64 (i8 + (1 : Int))) i9 i10 l11 l12 l13 l14 l15 l16 l17 l18 l19 l20 l21 l22 l23 l24 l25 l26 l27 l28)) := (LP_eq ..).trans (by kernel_rfl)
theorem L1_1_1_0_1_0v1_eq (i0 : Int) (l1 l2 : List (List V)) (i3 i4 i5 i6 i7 i8 i9 i10 : Int) (l11 l12 l13 l14 l15 l16 l17 l18 l19 l20 l21 l22 l23 l24 l25 l26 l27 l28 : List (List V)) : L1_1_1_0_1_0v1 i0 l1 l2 i3 i4 i5 i6 i7 i8 i9 i10 l11 l12 l13 l14 l15 l16 l17 l18 l19 l20 l21 l22 l23 l24 l25 l26 l27 l28 =
    (bif (decide (i8 < (6 : Int))) then (if (((0 : Int) ≤ i8) ∧ (i8 < ((6 : Nat) : Int))) then (V.asInt (List.getD [(V.int .i64 (0 : Int)), (V.int .i64 i3), (V.int .i64 i4), (V.int .i64 i5), (V.int .i64 i6), (V.int .i64 i7)] (((Int.toNat i8) * 1) + 0) V.undef) .i64 (fun n134 => (L1_1_1_0_1_0_0_1_1_0_0_1_1_0 i8 l1 l2 i3 i4 i5 i6 i7 i8 n134 (0 : Int) l11 l12 l13 l14 l15 l16 l17 l18 l19 l20 l21 l22 l23 l24 l25 l26 l27 l28))) else none) else (some ⟨(Out.ret (V.tup [(V.agg [(V.int .i64 (0 : Int)), (V.int .i64 (0 : Int))]), (V.int .i64 (0 : Int))])), [], none⟩)) := (LP_eq ..).trans (by kernel_rfl)
theorem eq (a0_0 a0_1 a0_2 a0_3 a0_4 a1_0 a2_0 : List (List V)) : den Sp id [(V.agg [(V.sl .no T_api_Pair a0_0), (V.sl .no T_api_Pair a0_1), (V.sl .no T_decl_Keep a0_2), (V.sl .no T_decl_Break a0_3), (V.sl .no T_decl_Watch a0_4)]), (V.agg [(V.sl .no T_api_Proc a1_0)]), (V.agg [(V.sl .no T_api_Proc a2_0)])] [] none =
    ((den Sp check_Check.id [(V.agg [(V.sl .no T_api_Proc a1_0)])] [] none)).bind (fun r13 => (Res.onRet r13 (fun v14 => (V.asTup v14 3 (fun rd15 => (V.asAgg (rd15 0) 2 (fun rd16 => (V.asSl (rd16 0) T_L_api_Var (fun es17 => (V.asSl (rd16 1) T_int (fun es18 => (V.asAgg (rd15 1) 2 (fun rd19 => (V.asInt (rd19 0) .i64 (fun n20 => (V.asInt (rd19 1) .i64 (fun n21 => (V.asInt (rd15 2) .i64 (fun n22 => (bif (n22 != (0 : Int)) then (some ⟨(Out.ret (V.tup [(V.agg [(V.int .i64 (6 : Int)), (V.int .i64 n20)]), (V.int .i64 n22)])), [], none⟩) else ((den Sp check_Check.id [(V.agg [(V.sl .no T_api_Proc a2_0)])] [] none)).bind (fun r29 => (Res.onRet r29 (fun v30 => (V.asTup v30 3 (fun rd31 => (V.asAgg (rd31 0) 2 (fun rd32 => (V.asSl (rd32 0) T_L_api_Var (fun es33 => (V.asSl (rd32 1) T_int (fun es34 => (V.asAgg (rd31 1) 2 (fun rd35 => (V.asInt (rd35 0) .i64 (fun n36 => (V.asInt (rd35 1) .i64 (fun n37 => (V.asInt (rd31 2) .i64 (fun n38 => (bif (n38 != (0 : Int)) then (some ⟨(Out.ret (V.tup [(V.agg [(V.int .i64 (7 : Int)), (V.int .i64 n36)]), (V.int .i64 n38)])), [], none⟩) else (L1_1_1_0_1_0 a1_0 a2_0 (a0_0.length : Int) (a0_1.length : Int) (a0_2.length : Int) (a0_3.length : Int) (a0_4.length : Int) a0_0 a0_1 a0_2 a0_3 a0_4 a1_0 a2_0 a0_0 a0_1 a0_2 a0_3 a0_4 a1_0 a2_0 es17 es18 es33 es34))))))))))))))))))))))))))))))))))))))))) := (den_eq ..).trans (by kernel_rfl)
end decl_Check
end Go.Proofs.YtmhnmelaodhemaaGreatDoor
namespace Go.Proofs.YtmhnmelaodhemaaGreatDoor
open Go Go.Proofs.Ab Go.Proofs.Px
set_option linter.unusedVariables false
set_option linter.unusedSimpArgs false
set_option maxRecDepth 100000
def firstN (e : Nat → Int) : Nat → Nat → Option (Int × Int)
  | 0, _ => none
  | n + 1, k => if e k ≠ 0 then some ((k : Int), e k) else firstN e n (k + 1)
def restE (e : Nat → Nat → Int) (n : Nat → Nat) : Nat → Nat → Int × Int × Int
  | 0, _ => (0, 0, 0)
  | m + 1, c => match firstN (e c) (n c) 0 with | some r => ((c : Int), r.1, r.2) | none => restE e n m (c + 1)
def cntF (f : Fl) : Nat → Nat
  | 1 => f.pairs.length | 2 => f.sames.length | 3 => f.keeps.length | 4 => f.breaks.length | 5 => f.watches.length | _ => 0
def itemE (f : Fl) (a b : List Prc) (c i : Nat) : Int := match c with
  | 1 => (match f.pairs[i]? with | some p => pairE a b (f.pairs.take i) p | none => 0)
  | 2 => (match f.sames[i]? with | some p => sameE a b f.pairs p | none => 0)
  | 3 => (match f.keeps[i]? with | some p => keepE a b p | none => 0)
  | 4 => (match f.breaks[i]? with | some p => stopE a b p | none => 0)
  | 5 => (match f.watches[i]? with | some p => watchE a b p | none => 0)
  | _ => 0
theorem firstN_E {α : Type} (g : α → Int) (l : List α) (e : Nat → Int) (he : ∀ (k : Nat) (h : k < l.length), e k = g l[k]) : ∀ k : Nat, k ≤ l.length → firstN e (l.length - k) k = firstE g (l.drop k) (k : Int) := by
  refine down ?_ fun k hk ih => ?_
  · rw [Nat.sub_self, List.drop_length]; rfl
  · rw [show l.length - k = (l.length - (k + 1)) + 1 by omega, List.drop_eq_getElem_cons hk, firstN, firstE, he k hk, ih]
    simp
theorem firstN_P (a b : List Prc) (l : List Pai) (e : Nat → Int) (he : ∀ (k : Nat) (h : k < l.length), e k = pairE a b (l.take k) l[k]) : ∀ k : Nat, k ≤ l.length → firstN e (l.length - k) k = pairsE a b (l.take k) (l.drop k) (k : Int) := by
  refine down ?_ fun k hk ih => ?_
  · rw [Nat.sub_self, List.drop_length]; rfl
  · have e2 : l.take k ++ [l[k]] = l.take (k + 1) := (List.take_succ_eq_append_getElem hk).symm
    rw [show l.length - k = (l.length - (k + 1)) + 1 by omega, List.drop_eq_getElem_cons hk, firstN, pairsE, he k hk, ih, e2]
    simp
theorem fileE_rest (f : Fl) (a b : List Prc) : restE (itemE f a b) (cntF f) 6 0 = itemsE f a b := by
  unfold itemsE orE
  have h1 := firstN_P a b f.pairs (itemE f a b 1) (fun k h => by simp [itemE, h]) 0 (Nat.zero_le _)
  have h2 := firstN_E (sameE a b f.pairs) f.sames (itemE f a b 2) (fun k h => by simp [itemE, h]) 0 (Nat.zero_le _)
  have h3 := firstN_E (keepE a b) f.keeps (itemE f a b 3) (fun k h => by simp [itemE, h]) 0 (Nat.zero_le _)
  have h4 := firstN_E (stopE a b) f.breaks (itemE f a b 4) (fun k h => by simp [itemE, h]) 0 (Nat.zero_le _)
  have h5 := firstN_E (watchE a b) f.watches (itemE f a b 5) (fun k h => by simp [itemE, h]) 0 (Nat.zero_le _)
  simp only [Nat.sub_zero, List.drop_zero, List.take_zero, Int.natCast_zero] at h1 h2 h3 h4 h5
  have h0 : firstN (itemE f a b 0) (cntF f 0) 0 = none := rfl
  simp only [restE, h0, show cntF f 1 = f.pairs.length from rfl, show cntF f 2 = f.sames.length from rfl, show cntF f 3 = f.keeps.length from rfl, show cntF f 4 = f.breaks.length from rfl, show cntF f 5 = f.watches.length from rfl, Nat.zero_add, Nat.reduceAdd, h1, h2, h3, h4, h5]
  rfl
section
variable (f : Fl) (a b : List Prc) (ha : Smalls a) (hb : Smalls b) (hf : SmallF f)
include ha hb hf
theorem judge_same_is (i : Nat) (hi : i < f.sames.length) : den Sp decl_judge_same.id [.ref 0 0, .int .i64 (i : Int)] [judgeB f a b] none = some ⟨.ret (.int .i64 (sameE a b f.pairs f.sames[i])), [judgeB f a b], none⟩ := by
  have p1 := judge_proc_is f a b ha hb 0 f.sames[i].procA
  have p2 := judge_proc_is f a b ha hb 1 f.sames[i].procB
  have v1 := judge_variable_is f a b ha hb 0 f.sames[i].procA f.sames[i].varA
  have v2 := judge_variable_is f a b ha hb 1 f.sames[i].procB f.sames[i].varB
  simp only [show ofS 0 a b = some a from rfl, show ofS 1 a b = some b from rfl] at p1 p2 v1 v2
  have hfp := hf.pairs
  generalize hx : f.sames[i] = x at p1 p2 v1 v2 ⊢
  have key : ∀ k : Nat, k ≤ f.pairs.length → ∀ t : Bool, decl_judge_same.L1_1_1_1_0_1_0 t (f.pairs.map Pai.v) (f.pairs.length : Int) (k : Int) (f.pairs.map Pai.v) (f.sames.map Pai.v) (f.keeps.map Kp.v) (f.breaks.map Bk.v) (f.watches.map Wt.v) (a.map Prc.v) (b.map Prc.v) (vrows (a.map varsP)) (iv (a.map fun q => (Stm.counts q.body : Int))) (vrows (b.map varsP)) (iv (b.map fun q => (Stm.counts q.body : Int))) (B x.procA) (B x.procB) (B x.varA) (B x.varB) =
      some ⟨.ret (.int .i64 (if t || (f.pairs.drop k).any (fun q => decide (q.procA = x.procA) && decide (q.procB = x.procB)) then likeE (declV a x.procA x.varA) (declV b x.procB x.varB) else 90)), [judgeB f a b], none⟩ := by
    refine down (fun t => ?_) fun k hk ih t => ?_
    · unfold judgeB at v1 v2 ⊢
      rw [decl_judge_same.L1_1_1_1_0_1_0_eq]
      cases t with
      | false => simp
      | true =>
        cases h1 : declV a x.procA x.varA with
        | none => cases h2 : declV b x.procB x.varB <;> simp [v1, v2, h1, h2, varA, likeE, decl_judge_same.J1_1_1_1_0_1_0_0_1_1_1_eq, decl_judge_same.J1_1_1_1_0_1_0_0_1_1_1v1_eq, decl_judge_same.J1_1_1_1_1_1_1_1_0_0_1_1_1_0_0_eq, decl_judge_same.J1_1_1_1_1_1_1_1_1_0_eq]
        | some y =>
          cases h2 : declV b x.procB x.varB with
          | none => simp [v1, v2, h1, h2, varA, likeE, decl_judge_same.J1_1_1_1_0_1_0_0_1_1_1_eq, decl_judge_same.J1_1_1_1_0_1_0_0_1_1_1v1_eq, decl_judge_same.J1_1_1_1_1_1_1_1_0_0_1_1_1_0_0_eq, decl_judge_same.J1_1_1_1_1_1_1_1_1_0_eq]
          | some z => by_cases c1 : y.type = z.type <;> by_cases c2 : y.size = z.size <;> simp [v1, v2, h1, h2, varA, likeE, c1, c2, decl_judge_same.J1_1_1_1_0_1_0_0_1_1_1_eq, decl_judge_same.J1_1_1_1_0_1_0_0_1_1_1v1_eq, decl_judge_same.J1_1_1_1_1_1_1_1_0_0_1_1_1_0_0_eq, decl_judge_same.J1_1_1_1_1_1_1_1_1_0_eq]
    · simp only [Int.natCast_add, Int.natCast_one] at ih
      rw [decl_judge_same.L1_1_1_1_0_1_0_eq, List.drop_eq_getElem_cons hk, List.any_cons]
      cases t with
      | true => simp (disch := omega) [hk, wrap_in, ih, decl_judge_same.J1_1_1_1_0_1_0_0_1_1_1_eq]
      | false =>
        by_cases c1 : f.pairs[k].procA = x.procA
        · by_cases c2 : f.pairs[k].procB = x.procB <;> simp (disch := omega) [hk, wrap_in, ih, c1, c2, decl_judge_same.J1_1_1_1_0_1_0_0_1_1_1v1_eq]
        · simp (disch := omega) [hk, wrap_in, ih, c1, decl_judge_same.J1_1_1_1_0_1_0_0_1_1_1v1_eq]
  have k0 := key 0 (Nat.zero_le _) false
  simp only [Int.natCast_zero, List.drop_zero, Bool.false_or] at k0
  unfold judgeB at p1 p2 k0 ⊢
  rw [decl_judge_same.eq]
  unfold sameE
  by_cases c1 : procQ x.procA a = none
  · simp [hi, hx, p1, c1, procI_neg.2 c1]
  · have d1 : ¬ procI x.procA a 0 < 0 := fun h => c1 (procI_neg.1 h)
    by_cases c2 : procQ x.procB b = none
    · simp [hi, hx, p1, p2, c1, d1, c2, procI_neg.2 c2]
    · have d2 : ¬ procI x.procB b 0 < 0 := fun h => c2 (procI_neg.1 h)
      simp [hi, hx, p1, p2, c1, d1, c2, d2, k0]
theorem judge_item_is (c : Nat) (hc : c ≤ 5) (i : Nat) (hi : i < cntF f c) : den Sp decl_judge_item.id [.ref 0 0, .int .i64 (c : Int), .int .i64 (i : Int)] [judgeB f a b] none = some ⟨.ret (.int .i64 (itemE f a b c i)), [judgeB f a b], none⟩ := by
  match c, hc, hi with
  | 0, _, hi => cases hi
  | 1, _, hi =>
    have hi' : i < f.pairs.length := hi
    have h := judge_pair_is f a b ha hb i hi' hf.pairs
    unfold judgeB at h ⊢
    rw [decl_judge_item.eq]
    simp [h, itemE, hi']
  | 2, _, hi =>
    have hi' : i < f.sames.length := hi
    have h := judge_same_is f a b ha hb hf i hi'
    unfold judgeB at h ⊢
    rw [decl_judge_item.eq]
    simp [h, itemE, hi']
  | 3, _, hi =>
    have hi' : i < f.keeps.length := hi
    have h := judge_keep_is f a b ha hb i hi'
    unfold judgeB at h ⊢
    rw [decl_judge_item.eq]
    simp [h, itemE, hi']
  | 4, _, hi =>
    have hi' : i < f.breaks.length := hi
    have h := judge_stop_is f a b ha hb i hi' (hf.whn _ (List.getElem_mem hi'))
    unfold judgeB at h ⊢
    rw [decl_judge_item.eq]
    simp [h, itemE, hi']
  | 5, _, hi =>
    have hi' : i < f.watches.length := hi
    have h := judge_watch_is f a b ha hb i hi'
    unfold judgeB at h ⊢
    rw [decl_judge_item.eq]
    simp [h, itemE, hi']
theorem decl_Check_is (oka : ∀ q ∈ a, PrcOk q) (okb : ∀ q ∈ b, PrcOk q) (sa : Prc.sizes a ≤ 1000000) (sb : Prc.sizes b ≤ 1000000) :
    den Sp decl_Check.id [.agg [.sl .no T_api_Pair (f.pairs.map Pai.v), .sl .no T_api_Pair (f.sames.map Pai.v), .sl .no T_decl_Keep (f.keeps.map Kp.v), .sl .no T_decl_Break (f.breaks.map Bk.v), .sl .no T_decl_Watch (f.watches.map Wt.v)], .agg [.sl .no T_api_Proc (a.map Prc.v)], .agg [.sl .no T_api_Proc (b.map Prc.v)]] [] none =
      toldE (fileE f a b) := by
  unfold toldE
  have ca := check_Check_is a oka sa
  have cb := check_Check_is b okb sb
  have cnt : ∀ c : Nat, cntF f c ≤ 1000000 := fun c => by
    match c with
    | 0 => exact Nat.zero_le _
    | 1 => exact hf.pairs
    | 2 => exact hf.sames
    | 3 => exact hf.keeps
    | 4 => exact hf.breaks
    | 5 => exact hf.watches
    | c + 6 => exact Nat.zero_le _
  have kinds : ∀ c : Nat, c ≤ 6 → ∀ x y z : Int, decl_Check.L1_1_1_0_1_0v1 x (a.map Prc.v) (b.map Prc.v) (f.pairs.length : Int) (f.sames.length : Int) (f.keeps.length : Int) (f.breaks.length : Int) (f.watches.length : Int) (c : Int) y z (f.pairs.map Pai.v) (f.sames.map Pai.v) (f.keeps.map Kp.v) (f.breaks.map Bk.v) (f.watches.map Wt.v) (a.map Prc.v) (b.map Prc.v) (f.pairs.map Pai.v) (f.sames.map Pai.v) (f.keeps.map Kp.v) (f.breaks.map Bk.v) (f.watches.map Wt.v) (a.map Prc.v) (b.map Prc.v) (vrows (a.map varsP)) (iv (a.map fun q => (Stm.counts q.body : Int))) (vrows (b.map varsP)) (iv (b.map fun q => (Stm.counts q.body : Int))) =
      some ⟨.ret (.tup [.agg [.int .i64 (restE (itemE f a b) (cntF f) (6 - c) c).1, .int .i64 (restE (itemE f a b) (cntF f) (6 - c) c).2.1], .int .i64 (restE (itemE f a b) (cntF f) (6 - c) c).2.2]), [], none⟩ := by
    refine down (fun x y z => ?_) fun c hc ih x y z => ?_
    · rw [decl_Check.L1_1_1_0_1_0v1_eq]; simp [restE]
    · have inner : ∀ k : Nat, k ≤ cntF f c → decl_Check.L1_1_1_0_1_0_0_1_1_0_0_1_1_0 (c : Int) (a.map Prc.v) (b.map Prc.v) (f.pairs.length : Int) (f.sames.length : Int) (f.keeps.length : Int) (f.breaks.length : Int) (f.watches.length : Int) (c : Int) (cntF f c : Int) (k : Int) (f.pairs.map Pai.v) (f.sames.map Pai.v) (f.keeps.map Kp.v) (f.breaks.map Bk.v) (f.watches.map Wt.v) (a.map Prc.v) (b.map Prc.v) (f.pairs.map Pai.v) (f.sames.map Pai.v) (f.keeps.map Kp.v) (f.breaks.map Bk.v) (f.watches.map Wt.v) (a.map Prc.v) (b.map Prc.v) (vrows (a.map varsP)) (iv (a.map fun q => (Stm.counts q.body : Int))) (vrows (b.map varsP)) (iv (b.map fun q => (Stm.counts q.body : Int))) =
          (match firstN (itemE f a b c) (cntF f c - k) k with
          | some r => some ⟨.ret (.tup [.agg [.int .i64 (c : Int), .int .i64 r.1], .int .i64 r.2]), [], none⟩
          | none => some ⟨.ret (.tup [.agg [.int .i64 (restE (itemE f a b) (cntF f) (6 - (c + 1)) (c + 1)).1, .int .i64 (restE (itemE f a b) (cntF f) (6 - (c + 1)) (c + 1)).2.1], .int .i64 (restE (itemE f a b) (cntF f) (6 - (c + 1)) (c + 1)).2.2]), [], none⟩) := by
        have hcn := cnt c
        simp only [Int.natCast_add, Int.natCast_one] at ih
        refine down ?_ fun k hk ihk => ?_
        · rw [decl_Check.L1_1_1_0_1_0_0_1_1_0_0_1_1_0_eq, Nat.sub_self]
          simp (disch := omega) [firstN, wrap_in, ih]
        · have hit := judge_item_is f a b ha hb hf c (by omega) k hk
          unfold judgeB at hit
          simp only [Int.natCast_add, Int.natCast_one] at ihk
          rw [decl_Check.L1_1_1_0_1_0_0_1_1_0_0_1_1_0_eq, show cntF f c - k = (cntF f c - (k + 1)) + 1 by omega, firstN]
          by_cases c1 : itemE f a b c k = 0
          · simp (disch := omega) [hk, hit, c1, wrap_in, ihk, List.getElem?_cons_zero]
          · simp (disch := omega) [hk, hit, c1, List.getElem?_cons_zero]
      have h0 := inner 0 (Nat.zero_le _)
      have hcn : List.getD [V.int .i64 0, V.int .i64 (f.pairs.length : Int), V.int .i64 (f.sames.length : Int), V.int .i64 (f.keeps.length : Int), V.int .i64 (f.breaks.length : Int), V.int .i64 (f.watches.length : Int)] (Int.toNat (c : Int) * 1 + 0) V.undef = .int .i64 (cntF f c : Int) := by
        match c, hc with
        | 0, _ => rfl
        | 1, _ => rfl
        | 2, _ => rfl
        | 3, _ => rfl
        | 4, _ => rfl
        | 5, _ => rfl
      rw [decl_Check.L1_1_1_0_1_0v1_eq, hcn, decide_eq_true (show (c : Int) < 6 by omega), cond_true, if_pos ⟨by omega, by omega⟩, asInt_int]
      simp only [Int.natCast_zero, Nat.sub_zero] at h0
      rw [h0, show 6 - c = (6 - (c + 1)) + 1 by omega, restE]
      cases firstN (itemE f a b c) (cntF f c) 0 <;> rfl
  have k0 := kinds 0 (by omega) 0 0 0
  simp only [Int.natCast_zero, Nat.sub_zero, fileE_rest] at k0
  have k1 := (show decl_Check.L1_1_1_0_1_0 (a.map Prc.v) (b.map Prc.v) (f.pairs.length : Int) (f.sames.length : Int) (f.keeps.length : Int) (f.breaks.length : Int) (f.watches.length : Int) (f.pairs.map Pai.v) (f.sames.map Pai.v) (f.keeps.map Kp.v) (f.breaks.map Bk.v) (f.watches.map Wt.v) (a.map Prc.v) (b.map Prc.v) (f.pairs.map Pai.v) (f.sames.map Pai.v) (f.keeps.map Kp.v) (f.breaks.map Bk.v) (f.watches.map Wt.v) (a.map Prc.v) (b.map Prc.v) (vrows (a.map varsP)) (iv (a.map fun q => (Stm.counts q.body : Int))) (vrows (b.map varsP)) (iv (b.map fun q => (Stm.counts q.body : Int))) = decl_Check.L1_1_1_0_1_0v1 0 (a.map Prc.v) (b.map Prc.v) (f.pairs.length : Int) (f.sames.length : Int) (f.keeps.length : Int) (f.breaks.length : Int) (f.watches.length : Int) 0 0 0 (f.pairs.map Pai.v) (f.sames.map Pai.v) (f.keeps.map Kp.v) (f.breaks.map Bk.v) (f.watches.map Wt.v) (a.map Prc.v) (b.map Prc.v) (f.pairs.map Pai.v) (f.sames.map Pai.v) (f.keeps.map Kp.v) (f.breaks.map Bk.v) (f.watches.map Wt.v) (a.map Prc.v) (b.map Prc.v) (vrows (a.map varsP)) (iv (a.map fun q => (Stm.counts q.body : Int))) (vrows (b.map varsP)) (iv (b.map fun q => (Stm.counts q.body : Int))) from by
    rw [decl_Check.L1_1_1_0_1_0_eq, decl_Check.L1_1_1_0_1_0v1_eq]
    rfl).trans k0
  unfold checkR at ca cb
  rw [decl_Check.eq, ca]
  unfold fileE
  by_cases ea : (checkP a).2.2 = 0
  · simp only [ea, if_true]
    unfold infoV
    by_cases eb : (checkP b).2.2 = 0
    · simp only [eb, if_true] at cb
      unfold infoV at cb
      simp only [ne_eq, not_true_eq_false, if_false, eb]
      simp [cb, k1]
    · simp only [eb, if_false] at cb
      unfold infoV at cb
      simp [cb, eb]
  · simp only [ea, if_false]
    unfold infoV
    simp [ea]
end
end Go.Proofs.YtmhnmelaodhemaaGreatDoor
namespace Go.Proofs.YtmhnmelaodhemaaGreatDoor
open Go Go.Proofs.Ab
set_option maxRecDepth 100000
set_option linter.unusedVariables false
namespace ref12_Size
noncomputable abbrev e (p : List Nat) := ev Sp (den Sp) id Tryz.f27.ntmps (cAt (bodyOf Tryz.f27) p)
noncomputable abbrev cn (n0 : List Nat) := canon Sp id n0
noncomputable abbrev K : K := kFin Sp (den Sp) Tryz.f27 0
noncomputable def L1_1_0_1_0 (i0 i1 : Int) (l2 l3 l4 l5 l6 : List (List V)) : Option Res := LP (e [1, 1, 0, 1, 0, 0]) (cn [1002]) (kBlk 0 (kSeq (e [1, 1, 1]) (K))) ([(1, (V.int .i64 i0)), (2, (V.ref 1002 0)), (5, (V.int .i64 i1)), (6, (V.int .i64 (0 : Int))), (7, V.undef)], ⟨[(1002, (Blk.cells T_parallaxref12_File [(V.sl .no T_api_Pair l2), (V.sl .no T_api_Pair l3), (V.sl .no T_parallaxref12_Keep l4), (V.sl .no T_parallaxref12_Break l5), (V.sl .no T_parallaxref12_Watch l6)] false))], [], [], [], none⟩)
noncomputable def L1_1_0_1_0_0_1_0_0_1_1_0 (i0 i1 i2 i3 : Int) (l4 l5 l6 l7 l8 : List (List V)) : Option Res := LP (e [1, 1, 0, 1, 0, 0, 1, 0, 0, 1, 1, 0, 0]) (cn [1002]) (kBlk 2 (kBlk 1 (kSeq (e [1, 1, 0, 1, 0, 0, 1, 1]) (kLp (e [1, 1, 0, 1, 0, 0]) (cn [1002]) (kBlk 0 (kSeq (e [1, 1, 1]) (K))))))) ([(1, (V.int .i64 i0)), (2, (V.ref 1002 0)), (5, (V.int .i64 i1)), (6, (V.int .i64 i2)), (7, (V.int .i64 i3))], ⟨[(1002, (Blk.cells T_parallaxref12_File [(V.sl .no T_api_Pair l4), (V.sl .no T_api_Pair l5), (V.sl .no T_parallaxref12_Keep l6), (V.sl .no T_parallaxref12_Break l7), (V.sl .no T_parallaxref12_Watch l8)] false))], [], [], [], none⟩)
noncomputable def L1_1_0_1_0v1 (i0 i1 i2 i3 : Int) (l4 l5 l6 l7 l8 : List (List V)) : Option Res := LP (e [1, 1, 0, 1, 0, 0]) (cn [1002]) (kBlk 0 (kSeq (e [1, 1, 1]) (K))) ([(1, (V.int .i64 i0)), (2, (V.ref 1002 0)), (5, (V.int .i64 i1)), (6, (V.int .i64 i2)), (7, (V.int .i64 i3))], ⟨[(1002, (Blk.cells T_parallaxref12_File [(V.sl .no T_api_Pair l4), (V.sl .no T_api_Pair l5), (V.sl .no T_parallaxref12_Keep l6), (V.sl .no T_parallaxref12_Break l7), (V.sl .no T_parallaxref12_Watch l8)] false))], [], [], [], none⟩)
theorem L1_1_0_1_0_eq (i0 i1 : Int) (l2 l3 l4 l5 l6 : List (List V)) : L1_1_0_1_0 i0 i1 l2 l3 l4 l5 l6 =
    (bif (decide ((0 : Int) < (l5.length : Int))) then (bif (decide (i1 ≤ i0)) then (L1_1_0_1_0_0_1_0_0_1_1_0 i0 (IntKind.wrap .i64 (i1 + (1 : Int))) (0 : Int) (0 : Int) l2 l3 l4 l5 l6) else (some ⟨(Out.ret (V.int .i64 i1)), [], none⟩)) else (some ⟨(Out.ret (V.int .i64 i1)), [], none⟩)) := (LP_eq ..).trans (by kernel_rfl)
theorem L1_1_0_1_0_0_1_0_0_1_1_0_eq (i0 i1 i2 i3 : Int) (l4 l5 l6 l7 l8 : List (List V)) : L1_1_0_1_0_0_1_0_0_1_1_0 i0 i1 i2 i3 l4 l5 l6 l7 l8 =
    (if (((0 : Int) ≤ i2) ∧ (i2 < (l7.length : Int))) then (V.asSl (List.getD (List.getD l7 (Int.toNat i2) []) 3 V.undef) T_api_Expr (fun es29 => (bif (decide (i3 < (es29.length : Int))) then (bif (decide (i1 ≤ i0)) then (if (((0 : Int) ≤ i2) ∧ (i2 < (l7.length : Int))) then (V.asSl (List.getD (List.getD l7 (Int.toNat i2) []) 3 V.undef) T_api_Expr (fun es31 => (if (((0 : Int) ≤ i3) ∧ (i3 < (es31.length : Int))) then (V.asInt (List.getD (List.getD es31 (Int.toNat i3) []) 0 V.undef) .i64 (fun n32 => (V.asStr (List.getD (List.getD es31 (Int.toNat i3) []) 1 V.undef) (fun s33 => (V.asInt (List.getD (List.getD es31 (Int.toNat i3) []) 2 V.undef) .i64 (fun n34 => (V.asSl (List.getD (List.getD es31 (Int.toNat i3) []) 3 V.undef) T_api_Expr (fun es35 => ((den Sp ref03_ExprSize.id [(V.agg [(V.int .i64 n32), (V.str s33), (V.int .i64 n34), (V.sl .no T_api_Expr es35)]), (V.int .i64 i0)] [] none)).bind (fun r36 => (Res.onRet r36 (fun v37 => (V.asInt v37 .i64 (fun n38 => (L1_1_0_1_0_0_1_0_0_1_1_0 i0 (IntKind.wrap .i64 ((IntKind.wrap .i64 (i1 + (1 : Int))) + n38)) i2 (IntKind.wrap .i64 (i3 + (1 : Int))) l4 l5 l6 l7 l8)))))))))))))) else none))) else none) else (L1_1_0_1_0v1 i0 i1 (IntKind.wrap .i64 (i2 + (1 : Int))) i3 l4 l5 l6 l7 l8)) else (L1_1_0_1_0v1 i0 i1 (IntKind.wrap .i64 (i2 + (1 : Int))) i3 l4 l5 l6 l7 l8)))) else none) := (LP_eq ..).trans (by kernel_rfl)
theorem L1_1_0_1_0v1_eq (i0 i1 i2 i3 : Int) (l4 l5 l6 l7 l8 : List (List V)) : L1_1_0_1_0v1 i0 i1 i2 i3 l4 l5 l6 l7 l8 =
    (bif (decide (i2 < (l7.length : Int))) then (bif (decide (i1 ≤ i0)) then (L1_1_0_1_0_0_1_0_0_1_1_0 i0 (IntKind.wrap .i64 (i1 + (1 : Int))) i2 (0 : Int) l4 l5 l6 l7 l8) else (some ⟨(Out.ret (V.int .i64 i1)), [], none⟩)) else (some ⟨(Out.ret (V.int .i64 i1)), [], none⟩)) := (LP_eq ..).trans (by kernel_rfl)
theorem eq (a0_0 a0_1 a0_2 a0_3 a0_4 : List (List V)) (a1 : Int) : den Sp id [(V.agg [(V.sl .no T_api_Pair a0_0), (V.sl .no T_api_Pair a0_1), (V.sl .no T_parallaxref12_Keep a0_2), (V.sl .no T_parallaxref12_Break a0_3), (V.sl .no T_parallaxref12_Watch a0_4)]), (V.int .i64 a1)] [] none =
    (L1_1_0_1_0 a1 (IntKind.wrap .i64 ((IntKind.wrap .i64 ((IntKind.wrap .i64 ((a0_0.length : Int) + (a0_1.length : Int))) + (a0_2.length : Int))) + (a0_4.length : Int))) a0_0 a0_1 a0_2 a0_3 a0_4) := (den_eq ..).trans (by kernel_rfl)
end ref12_Size
namespace law12_great
noncomputable abbrev e (p : List Nat) := ev Sp (den Sp) id Tryz.f9.ntmps (cAt (bodyOf Tryz.f9) p)
noncomputable abbrev cn (n0 : List Nat) := canon Sp id n0
noncomputable abbrev K : K := kFin Sp (den Sp) Tryz.f9 0
noncomputable def L1_1_0_1_0 (i0 i1 : Int) (l2 l3 l4 l5 l6 : List (List V)) : Option Res := LP (e [1, 1, 0, 1, 0, 0]) (cn [1001]) (kBlk 0 (kSeq (e [1, 1, 1]) (K))) ([(1, (V.ref 1001 0)), (3, (V.int .i64 i0)), (4, (V.int .i64 i1)), (5, V.undef)], ⟨[(1001, (Blk.cells T_parallaxref12_File [(V.sl .no T_api_Pair l2), (V.sl .no T_api_Pair l3), (V.sl .no T_parallaxref12_Keep l4), (V.sl .no T_parallaxref12_Break l5), (V.sl .no T_parallaxref12_Watch l6)] false))], [], [], [], none⟩)
noncomputable def L1_1_1_0_1_0 (i0 i1 i2 : Int) (l3 l4 l5 l6 l7 : List (List V)) : Option Res := LP (e [1, 1, 1, 0, 1, 0, 0]) (cn [1001]) (kBlk 2 (kSeq (e [1, 1, 1, 1]) (K))) ([(1, (V.ref 1001 0)), (3, (V.int .i64 i0)), (4, (V.int .i64 i1)), (5, (V.int .i64 i2))], ⟨[(1001, (Blk.cells T_parallaxref12_File [(V.sl .no T_api_Pair l3), (V.sl .no T_api_Pair l4), (V.sl .no T_parallaxref12_Keep l5), (V.sl .no T_parallaxref12_Break l6), (V.sl .no T_parallaxref12_Watch l7)] false))], [], [], [], none⟩)
theorem L1_1_0_1_0_eq (i0 i1 : Int) (l2 l3 l4 l5 l6 : List (List V)) : L1_1_0_1_0 i0 i1 l2 l3 l4 l5 l6 =
    (bif (decide (i1 < (l2.length : Int))) then (bif (decide (i0 ≤ (600 : Int))) then (if (((0 : Int) ≤ i1) ∧ (i1 < (l2.length : Int))) then (V.asStr (List.getD (List.getD l2 (Int.toNat i1) []) 0 V.undef) (fun s20 => (if (((0 : Int) ≤ i1) ∧ (i1 < (l2.length : Int))) then (V.asStr (List.getD (List.getD l2 (Int.toNat i1) []) 1 V.undef) (fun s21 => (if (((0 : Int) ≤ i1) ∧ (i1 < (l2.length : Int))) then (V.asStr (List.getD (List.getD l2 (Int.toNat i1) []) 2 V.undef) (fun s22 => (if (((0 : Int) ≤ i1) ∧ (i1 < (l2.length : Int))) then (V.asStr (List.getD (List.getD l2 (Int.toNat i1) []) 3 V.undef) (fun s23 => (L1_1_0_1_0 (IntKind.wrap .i64 ((IntKind.wrap .i64 ((IntKind.wrap .i64 ((IntKind.wrap .i64 (i0 + (IntKind.wrap .i64 (Int.tdiv (((ByteArray.size s20) : Nat) : Int) (8 : Int))))) + (IntKind.wrap .i64 (Int.tdiv (((ByteArray.size s21) : Nat) : Int) (8 : Int))))) + (IntKind.wrap .i64 (Int.tdiv (((ByteArray.size s22) : Nat) : Int) (8 : Int))))) + (IntKind.wrap .i64 (Int.tdiv (((ByteArray.size s23) : Nat) : Int) (8 : Int))))) (IntKind.wrap .i64 (i1 + (1 : Int))) l2 l3 l4 l5 l6))) else none))) else none))) else none))) else none) else (L1_1_1_0_1_0 i0 i1 (0 : Int) l2 l3 l4 l5 l6)) else (L1_1_1_0_1_0 i0 i1 (0 : Int) l2 l3 l4 l5 l6)) := (LP_eq ..).trans (by kernel_rfl)
theorem L1_1_1_0_1_0_eq (i0 i1 i2 : Int) (l3 l4 l5 l6 l7 : List (List V)) : L1_1_1_0_1_0 i0 i1 i2 l3 l4 l5 l6 l7 =
    (bif (decide (i2 < (l4.length : Int))) then (bif (decide (i0 ≤ (600 : Int))) then (if (((0 : Int) ≤ i2) ∧ (i2 < (l4.length : Int))) then (V.asStr (List.getD (List.getD l4 (Int.toNat i2) []) 0 V.undef) (fun s30 => (if (((0 : Int) ≤ i2) ∧ (i2 < (l4.length : Int))) then (V.asStr (List.getD (List.getD l4 (Int.toNat i2) []) 1 V.undef) (fun s31 => (if (((0 : Int) ≤ i2) ∧ (i2 < (l4.length : Int))) then (V.asStr (List.getD (List.getD l4 (Int.toNat i2) []) 2 V.undef) (fun s32 => (if (((0 : Int) ≤ i2) ∧ (i2 < (l4.length : Int))) then (V.asStr (List.getD (List.getD l4 (Int.toNat i2) []) 3 V.undef) (fun s33 => (L1_1_1_0_1_0 (IntKind.wrap .i64 ((IntKind.wrap .i64 ((IntKind.wrap .i64 ((IntKind.wrap .i64 (i0 + (IntKind.wrap .i64 (Int.tdiv (((ByteArray.size s30) : Nat) : Int) (8 : Int))))) + (IntKind.wrap .i64 (Int.tdiv (((ByteArray.size s31) : Nat) : Int) (8 : Int))))) + (IntKind.wrap .i64 (Int.tdiv (((ByteArray.size s32) : Nat) : Int) (8 : Int))))) + (IntKind.wrap .i64 (Int.tdiv (((ByteArray.size s33) : Nat) : Int) (8 : Int))))) i1 (IntKind.wrap .i64 (i2 + (1 : Int))) l3 l4 l5 l6 l7))) else none))) else none))) else none))) else none) else (some ⟨(Out.ret (V.bool (decide (i0 > (600 : Int))))), [], none⟩)) else (some ⟨(Out.ret (V.bool (decide (i0 > (600 : Int))))), [], none⟩)) := (LP_eq ..).trans (by kernel_rfl)
theorem eq (a0_0 a0_1 a0_2 a0_3 a0_4 : List (List V)) : den Sp id [(V.agg [(V.sl .no T_api_Pair a0_0), (V.sl .no T_api_Pair a0_1), (V.sl .no T_parallaxref12_Keep a0_2), (V.sl .no T_parallaxref12_Break a0_3), (V.sl .no T_parallaxref12_Watch a0_4)])] [] none =
    ((den Sp ref12_Size.id [(V.agg [(V.sl .no T_api_Pair a0_0), (V.sl .no T_api_Pair a0_1), (V.sl .no T_parallaxref12_Keep a0_2), (V.sl .no T_parallaxref12_Break a0_3), (V.sl .no T_parallaxref12_Watch a0_4)]), (V.int .i64 (600 : Int))] [] none)).bind (fun r7 => (Res.onRet r7 (fun v8 => (V.asInt v8 .i64 (fun n9 => (L1_1_0_1_0 n9 (0 : Int) a0_0 a0_1 a0_2 a0_3 a0_4)))))) := (den_eq ..).trans (by kernel_rfl)
end law12_great
namespace law12_own
noncomputable abbrev e (p : List Nat) := ev Sp (den Sp) id Tryz.f12.ntmps (cAt (bodyOf Tryz.f12) p)
noncomputable abbrev cn (n0 : List Nat) := canon Sp id n0
noncomputable abbrev K : K := kFin Sp (den Sp) Tryz.f12 0
noncomputable def L1_1_0_1_0 (i0 : Int) (l1 l2 l3 l4 l5 l6 l7 l8 : List (List V)) : Option Res := LP (e [1, 1, 0, 1, 0, 0]) (cn [1001, 1002, 1003]) (kBlk 0 (kSeq (e [1, 1, 1]) (K))) ([(1, (V.ref 1001 0)), (2, (V.ref 1002 0)), (3, (V.ref 1003 0)), (4, (V.int .i64 i0)), (5, V.undef), (7, V.undef)], ⟨[(1001, (Blk.cells T_parallaxref12_File [(V.sl .no T_api_Pair l1), (V.sl .no T_api_Pair l2), (V.sl .no T_parallaxref12_Keep l3), (V.sl .no T_parallaxref12_Break l4), (V.sl .no T_parallaxref12_Watch l5)] false)), (1002, (Blk.cells T_decl_File [(V.sl (Tok.row 0) T_api_Pair []), (V.sl (Tok.row 1) T_api_Pair []), (V.sl (Tok.row 2) T_decl_Keep []), (V.sl (Tok.row 3) T_decl_Break []), (V.sl (Tok.row 4) T_decl_Watch [])] false)), (1003, (Blk.cells T_decl_File [(V.sl .no T_api_Pair l6), (V.sl .no T_api_Pair l7), (V.sl (Tok.row 5) T_decl_Keep l8), (V.sl (Tok.row 6) T_decl_Break []), (V.sl (Tok.row 7) T_decl_Watch [])] false))], [0, 1, 2, 3, 4, 5, 6, 7], [], [], none⟩)
noncomputable def L1_1_1_0_1_0 (i0 i1 : Int) (l2 l3 l4 l5 l6 l7 l8 l9 l10 : List (List V)) : Option Res := LP (e [1, 1, 1, 0, 1, 0, 0]) (cn [1001, 1002, 1003]) (kBlk 2 (kSeq (e [1, 1, 1, 1]) (K))) ([(1, (V.ref 1001 0)), (2, (V.ref 1002 0)), (3, (V.ref 1003 0)), (4, (V.int .i64 i0)), (5, (V.int .i64 i1)), (7, V.undef)], ⟨[(1001, (Blk.cells T_parallaxref12_File [(V.sl .no T_api_Pair l2), (V.sl .no T_api_Pair l3), (V.sl .no T_parallaxref12_Keep l4), (V.sl .no T_parallaxref12_Break l5), (V.sl .no T_parallaxref12_Watch l6)] false)), (1002, (Blk.cells T_decl_File [(V.sl (Tok.row 0) T_api_Pair []), (V.sl (Tok.row 1) T_api_Pair []), (V.sl (Tok.row 2) T_decl_Keep []), (V.sl (Tok.row 3) T_decl_Break []), (V.sl (Tok.row 4) T_decl_Watch [])] false)), (1003, (Blk.cells T_decl_File [(V.sl .no T_api_Pair l7), (V.sl .no T_api_Pair l8), (V.sl (Tok.row 5) T_decl_Keep l9), (V.sl (Tok.row 6) T_decl_Break l10), (V.sl (Tok.row 7) T_decl_Watch [])] false))], [0, 1, 2, 3, 4, 5, 6, 7], [], [], none⟩)
noncomputable def L1_1_1_1_0_1_0 (i0 i1 i2 : Int) (l3 l4 l5 l6 l7 l8 l9 l10 l11 l12 : List (List V)) : Option Res := LP (e [1, 1, 1, 1, 0, 1, 0, 0]) (cn [1001, 1002, 1003]) (kBlk 4 (kSeq (e [1, 1, 1, 1, 1]) (K))) ([(1, (V.ref 1001 0)), (2, (V.ref 1002 0)), (3, (V.ref 1003 0)), (4, (V.int .i64 i0)), (5, (V.int .i64 i1)), (7, (V.int .i64 i2))], ⟨[(1001, (Blk.cells T_parallaxref12_File [(V.sl .no T_api_Pair l3), (V.sl .no T_api_Pair l4), (V.sl .no T_parallaxref12_Keep l5), (V.sl .no T_parallaxref12_Break l6), (V.sl .no T_parallaxref12_Watch l7)] false)), (1002, (Blk.cells T_decl_File [(V.sl (Tok.row 0) T_api_Pair []), (V.sl (Tok.row 1) T_api_Pair []), (V.sl (Tok.row 2) T_decl_Keep []), (V.sl (Tok.row 3) T_decl_Break []), (V.sl (Tok.row 4) T_decl_Watch [])] false)), (1003, (Blk.cells T_decl_File [(V.sl .no T_api_Pair l8), (V.sl .no T_api_Pair l9), (V.sl (Tok.row 5) T_decl_Keep l10), (V.sl (Tok.row 6) T_decl_Break l11), (V.sl (Tok.row 7) T_decl_Watch l12)] false))], [0, 1, 2, 3, 4, 5, 6, 7], [], [], none⟩)
theorem L1_1_0_1_0_eq (i0 : Int) (l1 l2 l3 l4 l5 l6 l7 l8 : List (List V)) : L1_1_0_1_0 i0 l1 l2 l3 l4 l5 l6 l7 l8 =
    (bif (decide (i0 < (l3.length : Int))) then (if (((0 : Int) ≤ i0) ∧ (i0 < (l3.length : Int))) then (V.asInt (List.getD (List.getD l3 (Int.toNat i0) []) 0 V.undef) .i64 (fun n19 => (if (((0 : Int) ≤ i0) ∧ (i0 < (l3.length : Int))) then (V.asStr (List.getD (List.getD l3 (Int.toNat i0) []) 1 V.undef) (fun s20 => (if (((0 : Int) ≤ i0) ∧ (i0 < (l3.length : Int))) then (V.asStr (List.getD (List.getD l3 (Int.toNat i0) []) 2 V.undef) (fun s21 => (if (((List.length l8) + (List.length [[(V.int .i64 n19), (V.str s20), (V.str s21)]])) ≤ most) then (L1_1_0_1_0 (IntKind.wrap .i64 (i0 + (1 : Int))) l1 l2 l3 l4 l5 l6 l7 (l8 ++ [[(V.int .i64 n19), (V.str s20), (V.str s21)]])) else none))) else none))) else none))) else none) else (L1_1_1_0_1_0 i0 (0 : Int) l1 l2 l3 l4 l5 l6 l7 l8 [])) := (LP_eq ..).trans (by kernel_rfl)
theorem L1_1_1_0_1_0_eq (i0 i1 : Int) (l2 l3 l4 l5 l6 l7 l8 l9 l10 : List (List V)) : L1_1_1_0_1_0 i0 i1 l2 l3 l4 l5 l6 l7 l8 l9 l10 =
    (bif (decide (i1 < (l5.length : Int))) then (if (((0 : Int) ≤ i1) ∧ (i1 < (l5.length : Int))) then (V.asInt (List.getD (List.getD l5 (Int.toNat i1) []) 0 V.undef) .i64 (fun n32 => (V.asStr (List.getD (List.getD l5 (Int.toNat i1) []) 1 V.undef) (fun s33 => (V.asInt (List.getD (List.getD l5 (Int.toNat i1) []) 2 V.undef) .i64 (fun n34 => (V.asSl (List.getD (List.getD l5 (Int.toNat i1) []) 3 V.undef) T_api_Expr (fun es35 => (if (((List.length l10) + (List.length [[(V.int .i64 n32), (V.str s33), (V.int .i64 n34), (V.sl .no T_api_Expr es35)]])) ≤ most) then (L1_1_1_0_1_0 i0 (IntKind.wrap .i64 (i1 + (1 : Int))) l2 l3 l4 l5 l6 l7 l8 l9 (l10 ++ [[(V.int .i64 n32), (V.str s33), (V.int .i64 n34), (V.sl .no T_api_Expr es35)]])) else none))))))))) else none) else (L1_1_1_1_0_1_0 i0 i1 (0 : Int) l2 l3 l4 l5 l6 l7 l8 l9 l10 [])) := (LP_eq ..).trans (by kernel_rfl)
theorem L1_1_1_1_0_1_0_eq (i0 i1 i2 : Int) (l3 l4 l5 l6 l7 l8 l9 l10 l11 l12 : List (List V)) : L1_1_1_1_0_1_0 i0 i1 i2 l3 l4 l5 l6 l7 l8 l9 l10 l11 l12 =
    (bif (decide (i2 < (l7.length : Int))) then (if (((0 : Int) ≤ i2) ∧ (i2 < (l7.length : Int))) then (V.asInt (List.getD (List.getD l7 (Int.toNat i2) []) 0 V.undef) .i64 (fun n47 => (if (((0 : Int) ≤ i2) ∧ (i2 < (l7.length : Int))) then (V.asStr (List.getD (List.getD l7 (Int.toNat i2) []) 1 V.undef) (fun s48 => (if (((0 : Int) ≤ i2) ∧ (i2 < (l7.length : Int))) then (V.asStr (List.getD (List.getD l7 (Int.toNat i2) []) 2 V.undef) (fun s49 => (if (((List.length l12) + (List.length [[(V.int .i64 n47), (V.str s48), (V.str s49)]])) ≤ most) then (L1_1_1_1_0_1_0 i0 i1 (IntKind.wrap .i64 (i2 + (1 : Int))) l3 l4 l5 l6 l7 l8 l9 l10 l11 (l12 ++ [[(V.int .i64 n47), (V.str s48), (V.str s49)]])) else none))) else none))) else none))) else none) else (some ⟨(Out.ret (V.agg [(V.sl .no T_api_Pair l8), (V.sl .no T_api_Pair l9), (V.sl .no T_decl_Keep l10), (V.sl .no T_decl_Break l11), (V.sl .no T_decl_Watch l12)])), [], none⟩)) := (LP_eq ..).trans (by kernel_rfl)
theorem eq (a0_0 a0_1 a0_2 a0_3 a0_4 : List (List V)) : den Sp id [(V.agg [(V.sl .no T_api_Pair a0_0), (V.sl .no T_api_Pair a0_1), (V.sl .no T_parallaxref12_Keep a0_2), (V.sl .no T_parallaxref12_Break a0_3), (V.sl .no T_parallaxref12_Watch a0_4)])] [] none =
    (L1_1_0_1_0 (0 : Int) a0_0 a0_1 a0_2 a0_3 a0_4 a0_0 a0_1 []) := (den_eq ..).trans (by kernel_rfl)
end law12_own
namespace law12_wide
noncomputable abbrev e (p : List Nat) := ev Sp (den Sp) id Tryz.f21.ntmps (cAt (bodyOf Tryz.f21) p)
noncomputable abbrev cn (n0 : List Nat) := canon Sp id n0
noncomputable abbrev K : K := kFin Sp (den Sp) Tryz.f21 0
theorem eq (a0_0 a1_0 : List (List V)) : den Sp id [(V.agg [(V.sl .no T_api_Proc a0_0)]), (V.agg [(V.sl .no T_api_Proc a1_0)])] [] none =
    ((den Sp ref03_Size.id [(V.agg [(V.sl .no T_api_Proc a0_0)]), (V.int .i64 (500 : Int))] [] none)).bind (fun r4 => (Res.onRet r4 (fun v5 => (V.asInt v5 .i64 (fun n6 => (bif (decide (n6 > (500 : Int))) then (some ⟨(Out.ret (V.bool true)), [], none⟩) else ((den Sp ref03_Size.id [(V.agg [(V.sl .no T_api_Proc a1_0)]), (V.int .i64 (500 : Int))] [] none)).bind (fun r7 => (Res.onRet r7 (fun v8 => (V.asInt v8 .i64 (fun n9 => (some ⟨(Out.ret (V.bool (decide (n9 > (500 : Int))))), [], none⟩)))))))))))) := (den_eq ..).trans (by kernel_rfl)
end law12_wide
end Go.Proofs.YtmhnmelaodhemaaGreatDoor
namespace Go.Proofs.YtmhnmelaodhemaaGreatDoor
open Go Go.Proofs.Ab Go.Proofs.Px
set_option linter.unusedVariables false
set_option linter.unusedSimpArgs false
set_option maxRecDepth 100000
def Bk.sizes : List Bk → Nat
  | [] => 0
  | b :: l => 1 + b.whn.length + Ex.sizes b.whn + Bk.sizes l
theorem Bk.sizes_drop {l : List Bk} {i : Nat} (h : i < l.length) : Bk.sizes (l.drop i) = 1 + l[i].whn.length + Ex.sizes l[i].whn + Bk.sizes (l.drop (i + 1)) := by
  rw [List.drop_eq_getElem_cons h, Bk.sizes]
theorem Bk.sizes_len : ∀ l : List Bk, l.length ≤ Bk.sizes l
  | [] => Nat.zero_le _
  | b :: l => by have := Bk.sizes_len l; rw [Bk.sizes, List.length_cons]; omega
theorem Bk.sizes_mem : ∀ {l : List Bk} {b : Bk}, b ∈ l → b.whn.length + Ex.sizes b.whn ≤ Bk.sizes l
  | x :: l, b, h => by
    rw [Bk.sizes]
    rcases List.mem_cons.1 h with rfl | h
    · omega
    · have := Bk.sizes_mem h; omega
theorem ref12_Size_is (f : Fl) (hf : FlOk f) : ∃ n : Int, den Sp ref12_Size.id [.agg f.v, .int .i64 600] [] none = some ⟨.ret (.int .i64 n), [], none⟩ ∧ 0 ≤ n ∧ n ≤ 1125899906842624 ∧
    (n ≤ 600 → n = (f.pairs.length : Int) + (f.sames.length : Int) + (f.keeps.length : Int) + (f.watches.length : Int) + (Bk.sizes f.breaks : Int)) := by
  have hb := hf.breaks
  have inner : ∀ i (hi : i < f.breaks.length), (∀ n k : Int, 0 ≤ n → n ≤ 1125899906842624 → ∃ n2 : Int, ref12_Size.L1_1_0_1_0v1 600 n ((i + 1 : Nat) : Int) k (f.pairs.map Pai.v) (f.sames.map Pai.v) (f.keeps.map Kp.v) (f.breaks.map Bk.v) (f.watches.map Wt.v) = some ⟨.ret (.int .i64 n2), [], none⟩ ∧ n ≤ n2 ∧ n2 ≤ 1125899906842624 ∧ (n2 ≤ 600 → n2 = n + (Bk.sizes (f.breaks.drop (i + 1)) : Int))) →
      ∀ j : Nat, j ≤ f.breaks[i].whn.length → ∀ n : Int, 0 ≤ n → n ≤ 1125899906842624 → ∃ n2 : Int, ref12_Size.L1_1_0_1_0_0_1_0_0_1_1_0 600 n (i : Int) (j : Int) (f.pairs.map Pai.v) (f.sames.map Pai.v) (f.keeps.map Kp.v) (f.breaks.map Bk.v) (f.watches.map Wt.v) = some ⟨.ret (.int .i64 n2), [], none⟩ ∧ n ≤ n2 ∧ n2 ≤ 1125899906842624 ∧
        (n2 ≤ 600 → n2 = n + (f.breaks[i].whn.length - j : Int) + (Ex.sizes (f.breaks[i].whn.drop j) : Int) + (Bk.sizes (f.breaks.drop (i + 1)) : Int)) := by
    intro i hi hnext
    have ho := hb.2 _ (List.getElem_mem hi)
    have hw := ho.whn
    have hwr : IntKind.wrap .i64 ((i : Int) + 1) = (i : Int) + 1 := wrap_in (by omega) (by omega)
    simp only [Int.natCast_add, Int.natCast_one] at hnext
    refine down (fun n hn hn2 => ?_) fun j hj ihj n hn hn2 => ?_
    · obtain ⟨n2, g1, g2, g3, g4⟩ := hnext n (f.breaks[i].whn.length : Int) hn hn2
      refine ⟨n2, ?_, g2, g3, fun h => ?_⟩
      · rw [ref12_Size.L1_1_0_1_0_0_1_0_0_1_1_0_eq]
        simp [hi, hwr, g1]
      · have := g4 h
        rw [List.drop_length, Ex.sizes]; omega
    · by_cases hc : n ≤ 600
      · obtain ⟨m, h1, h2, h3, h4⟩ := ref03_ExprSize_is f.breaks[i].whn[j] (hw.2 _ (List.getElem_mem hj)) 600 (by omega) (by omega)
        obtain ⟨n2, g1, g2, g3, g4⟩ := ihj (n + 1 + m) (by omega) (by omega)
        have w1 : IntKind.wrap .i64 (n + 1) = n + 1 := wrap_in (by omega) (by omega)
        have w2 : IntKind.wrap .i64 (n + 1 + m) = n + 1 + m := wrap_in (by omega) (by omega)
        have w3 : IntKind.wrap .i64 ((j : Int) + 1) = (j : Int) + 1 := wrap_in (by omega) (by omega)
        simp only [Int.natCast_add, Int.natCast_one] at g1
        refine ⟨n2, ?_, by omega, g3, fun h => ?_⟩
        · rw [ref12_Size.L1_1_0_1_0_0_1_0_0_1_1_0_eq]
          simp [hi, hj, hc, h1, w1, w2, w3, g1]
        · have e1 := g4 h
          have e2 := h4 (by omega)
          rw [Ex.sizes_drop hj]; omega
      · obtain ⟨n2, g1, g2, g3, g4⟩ := hnext n (j : Int) hn hn2
        refine ⟨n2, ?_, g2, g3, fun h => by omega⟩
        rw [ref12_Size.L1_1_0_1_0_0_1_0_0_1_1_0_eq]
        simp [hi, hj, hc, hwr, g1]
  have outer : ∀ i : Nat, i ≤ f.breaks.length → ∀ n k : Int, 0 ≤ n → n ≤ 1125899906842624 → ∃ n2 : Int, ref12_Size.L1_1_0_1_0v1 600 n (i : Int) k (f.pairs.map Pai.v) (f.sames.map Pai.v) (f.keeps.map Kp.v) (f.breaks.map Bk.v) (f.watches.map Wt.v) = some ⟨.ret (.int .i64 n2), [], none⟩ ∧ n ≤ n2 ∧ n2 ≤ 1125899906842624 ∧ (n2 ≤ 600 → n2 = n + (Bk.sizes (f.breaks.drop i) : Int)) := by
    refine down (fun n k hn hn2 => ?_) fun i hi ihi n k hn hn2 => ?_
    · refine ⟨n, ?_, by omega, hn2, fun _ => by rw [List.drop_length, Bk.sizes]; omega⟩
      rw [ref12_Size.L1_1_0_1_0v1_eq]; simp
    · by_cases hc : n ≤ 600
      · obtain ⟨n2, g1, g2, g3, g4⟩ := inner i hi ihi 0 (Nat.zero_le _) (n + 1) (by omega) (by omega)
        have w1 : IntKind.wrap .i64 (n + 1) = n + 1 := wrap_in (by omega) (by omega)
        refine ⟨n2, ?_, by omega, g3, fun h => ?_⟩
        · rw [ref12_Size.L1_1_0_1_0v1_eq]
          simp [hi, hc, w1]
          simpa using g1
        · have := g4 h
          rw [Bk.sizes_drop hi]
          rw [List.drop_zero] at this
          omega
      · refine ⟨n, ?_, by omega, hn2, fun h => by omega⟩
        rw [ref12_Size.L1_1_0_1_0v1_eq]; simp [hi, hc]
  have l1 := hf.pairs.1
  have l2 := hf.sames.1
  have l3 := hf.keeps.1
  have l4 := hf.watches.1
  obtain ⟨n2, g1, g2, g3, g4⟩ := outer 0 (Nat.zero_le _) ((f.pairs.length : Int) + (f.sames.length : Int) + (f.keeps.length : Int) + (f.watches.length : Int)) 0 (by omega) (by omega)
  refine ⟨n2, ?_, by omega, g3, fun h => by have := g4 h; rw [List.drop_zero] at this; exact this⟩
  have e : ∀ n : Int, ref12_Size.L1_1_0_1_0 600 n (f.pairs.map Pai.v) (f.sames.map Pai.v) (f.keeps.map Kp.v) (f.breaks.map Bk.v) (f.watches.map Wt.v) = ref12_Size.L1_1_0_1_0v1 600 n 0 0 (f.pairs.map Pai.v) (f.sames.map Pai.v) (f.keeps.map Kp.v) (f.breaks.map Bk.v) (f.watches.map Wt.v) := fun n => by
    rw [ref12_Size.L1_1_0_1_0_eq, ref12_Size.L1_1_0_1_0v1_eq]
  rw [Fl.v, ref12_Size.eq]
  simp (disch := omega) only [List.length_map, wrap_in]
  rw [e]
  simpa using g1
def Pai.len (p : Pai) : Nat := p.procA.length / 8 + p.procB.length / 8 + p.varA.length / 8 + p.varB.length / 8
def Pai.lens : List Pai → Nat
  | [] => 0
  | p :: l => p.len + Pai.lens l
theorem Pai.lens_drop {l : List Pai} {i : Nat} (h : i < l.length) : Pai.lens (l.drop i) = l[i].len + Pai.lens (l.drop (i + 1)) := by
  rw [List.drop_eq_getElem_cons h, Pai.lens]
structure NotGreat (f : Fl) : Prop where
  num : f.pairs.length + f.sames.length + f.keeps.length + f.watches.length + Bk.sizes f.breaks ≤ 600
  pairs : Pai.lens f.pairs ≤ 600
  sames : Pai.lens f.sames ≤ 600
theorem law12_great_is (f : Fl) (hf : FlOk f) : ∃ g : Bool, den Sp law12_great.id [.agg f.v] [] none = some ⟨.ret (.bool g), [], none⟩ ∧ (g = false → NotGreat f) := by
  obtain ⟨n, h1, h2, h3, h4⟩ := ref12_Size_is f hf
  have second : ∀ x : Int, ∀ i : Nat, i ≤ f.sames.length → ∀ m : Int, 0 ≤ m → m ≤ 1125899906843824 → ∃ m2 : Int, law12_great.L1_1_1_0_1_0 m x (i : Int) (f.pairs.map Pai.v) (f.sames.map Pai.v) (f.keeps.map Kp.v) (f.breaks.map Bk.v) (f.watches.map Wt.v) = some ⟨.ret (.bool (decide (600 < m2))), [], none⟩ ∧ m ≤ m2 ∧ (m2 ≤ 600 → m2 = m + (Pai.lens (f.sames.drop i) : Int)) := by
    intro x
    have hl := hf.sames
    refine down (fun m hm hm2 => ?_) fun i hi ih m hm hm2 => ?_
    · refine ⟨m, ?_, by omega, fun _ => by rw [List.drop_length, Pai.lens]; omega⟩
      rw [law12_great.L1_1_1_0_1_0_eq]; simp
    · by_cases hc : m ≤ 600
      · have ho := hl.2 _ (List.getElem_mem hi)
        have e1 := ho.procA
        have e2 := ho.procB
        have e3 := ho.varA
        have e4 := ho.varB
        obtain ⟨m2, g1, g2, g3⟩ := ih (m + ((f.sames[i].procA.length / 8 : Nat) : Int) + ((f.sames[i].procB.length / 8 : Nat) : Int) + ((f.sames[i].varA.length / 8 : Nat) : Int) + ((f.sames[i].varB.length / 8 : Nat) : Int)) (by omega) (by omega)
        simp only [Int.natCast_add, Int.natCast_one] at g1
        refine ⟨m2, ?_, by omega, fun h => ?_⟩
        · rw [law12_great.L1_1_1_0_1_0_eq]
          simp (disch := omega) only [List.length_map, decide_eq_true (show (i : Int) < (f.sames.length : Int) by omega), cond_true, decide_eq_true hc, if_pos (in_row hi), Int.toNat_natCast, map_at _ _ _ hi, Pai.v_0, Pai.v_1, Pai.v_2, Pai.v_3, asStr_str, B_size, eighth, wrap_in]
          exact g1
        · have := g3 h
          rw [Pai.lens_drop hi, Pai.len]; omega
      · refine ⟨m, ?_, by omega, fun h => by omega⟩
        rw [law12_great.L1_1_1_0_1_0_eq]; simp [hi, hc]
  have first : ∀ i : Nat, i ≤ f.pairs.length → ∀ m : Int, 0 ≤ m → m ≤ 1125899906843224 → ∃ m2 : Int, law12_great.L1_1_0_1_0 m (i : Int) (f.pairs.map Pai.v) (f.sames.map Pai.v) (f.keeps.map Kp.v) (f.breaks.map Bk.v) (f.watches.map Wt.v) = some ⟨.ret (.bool (decide (600 < m2))), [], none⟩ ∧ m ≤ m2 ∧ (m2 ≤ 600 → m2 = m + (Pai.lens (f.pairs.drop i) : Int) + (Pai.lens f.sames : Int)) := by
    have hl := hf.pairs
    refine down (fun m hm hm2 => ?_) fun i hi ih m hm hm2 => ?_
    · obtain ⟨m2, g1, g2, g3⟩ := second (f.pairs.length : Int) 0 (Nat.zero_le _) m hm (by omega)
      refine ⟨m2, ?_, g2, fun h => by have := g3 h; rw [List.drop_length, Pai.lens]; rw [List.drop_zero] at this; omega⟩
      rw [law12_great.L1_1_0_1_0_eq]; simpa using g1
    · by_cases hc : m ≤ 600
      · have ho := hl.2 _ (List.getElem_mem hi)
        have e1 := ho.procA
        have e2 := ho.procB
        have e3 := ho.varA
        have e4 := ho.varB
        obtain ⟨m2, g1, g2, g3⟩ := ih (m + ((f.pairs[i].procA.length / 8 : Nat) : Int) + ((f.pairs[i].procB.length / 8 : Nat) : Int) + ((f.pairs[i].varA.length / 8 : Nat) : Int) + ((f.pairs[i].varB.length / 8 : Nat) : Int)) (by omega) (by omega)
        simp only [Int.natCast_add, Int.natCast_one] at g1
        refine ⟨m2, ?_, by omega, fun h => ?_⟩
        · rw [law12_great.L1_1_0_1_0_eq]
          simp (disch := omega) only [List.length_map, decide_eq_true (show (i : Int) < (f.pairs.length : Int) by omega), cond_true, decide_eq_true hc, if_pos (in_row hi), Int.toNat_natCast, map_at _ _ _ hi, Pai.v_0, Pai.v_1, Pai.v_2, Pai.v_3, asStr_str, B_size, eighth, wrap_in]
          exact g1
        · have := g3 h
          rw [Pai.lens_drop hi, Pai.len]; omega
      · obtain ⟨m2, g1, g2, g3⟩ := second (i : Int) 0 (Nat.zero_le _) m hm (by omega)
        refine ⟨m2, ?_, g2, fun h => by omega⟩
        rw [law12_great.L1_1_0_1_0_eq]
        simp [hi, hc]
        simpa using g1
  obtain ⟨m2, g1, g2, g3⟩ := first 0 (Nat.zero_le _) n h2 (by omega)
  refine ⟨decide (600 < m2), ?_, fun hg => ?_⟩
  · rw [Fl.v] at h1
    rw [Fl.v, law12_great.eq, h1]
    simpa using g1
  · have hm : m2 ≤ 600 := by simpa using hg
    have e1 := g3 hm
    rw [List.drop_zero] at e1
    have e2 := h4 (by omega)
    exact ⟨by omega, by omega, by omega⟩
theorem NotGreat.small {f : Fl} (h : NotGreat f) (hf : FlOk f) : SmallF f := by
  have := h.num
  have hb := Bk.sizes_len f.breaks
  exact ⟨by omega, by omega, by omega, by omega, by omega, fun x hx => by have := Bk.sizes_mem hx; omega, fun x hx => (hf.breaks.2 x hx).mark⟩
def Fl.ov (f : Fl) : List V := [.sl .no T_api_Pair (f.pairs.map Pai.v), .sl .no T_api_Pair (f.sames.map Pai.v), .sl .no T_decl_Keep (f.keeps.map Kp.v), .sl .no T_decl_Break (f.breaks.map Bk.v), .sl .no T_decl_Watch (f.watches.map Wt.v)]
theorem law12_own_is (f : Fl) (hf : SmallF f) : den Sp law12_own.id [.agg f.v] [] none = some ⟨.ret (.agg f.ov), [], none⟩ := by
  have hm : most = 1099511627776 := rfl
  have third : ∀ (x y : Int), ∀ i : Nat, i ≤ f.watches.length → law12_own.L1_1_1_1_0_1_0 x y (i : Int) (f.pairs.map Pai.v) (f.sames.map Pai.v) (f.keeps.map Kp.v) (f.breaks.map Bk.v) (f.watches.map Wt.v) (f.pairs.map Pai.v) (f.sames.map Pai.v) (f.keeps.map Kp.v) (f.breaks.map Bk.v) ((f.watches.take i).map Wt.v) = some ⟨.ret (.agg f.ov), [], none⟩ := by
    intro x y
    have hl := hf.watches
    refine down ?_ fun i hi ih => ?_
    · rw [law12_own.L1_1_1_1_0_1_0_eq, List.take_length]; simp [Fl.ov]
    · rw [List.take_succ_eq_append_getElem hi, List.map_append, List.map_singleton, Wt.v] at ih
      simp only [Int.natCast_add, Int.natCast_one] at ih
      have hw : IntKind.wrap .i64 ((i : Int) + 1) = (i : Int) + 1 := wrap_in (by omega) (by omega)
      rw [law12_own.L1_1_1_1_0_1_0_eq]
      simp (disch := omega) only [List.length_map, decide_eq_true (show (i : Int) < (f.watches.length : Int) by omega), cond_true, if_pos (in_row hi), Int.toNat_natCast, map_at _ _ _ hi, Wt.v_0, Wt.v_1, Wt.v_2, asInt_int, asStr_str, hw, List.length_take, List.length_singleton]
      rw [if_pos (by omega)]
      exact ih
  have second : ∀ (x : Int), ∀ i : Nat, i ≤ f.breaks.length → law12_own.L1_1_1_0_1_0 x (i : Int) (f.pairs.map Pai.v) (f.sames.map Pai.v) (f.keeps.map Kp.v) (f.breaks.map Bk.v) (f.watches.map Wt.v) (f.pairs.map Pai.v) (f.sames.map Pai.v) (f.keeps.map Kp.v) ((f.breaks.take i).map Bk.v) = some ⟨.ret (.agg f.ov), [], none⟩ := by
    intro x
    have hl := hf.breaks
    refine down ?_ fun i hi ih => ?_
    · rw [law12_own.L1_1_1_0_1_0_eq, List.take_length]; simpa using third x (f.breaks.length : Int) 0 (Nat.zero_le _)
    · rw [List.take_succ_eq_append_getElem hi, List.map_append, List.map_singleton, Bk.v] at ih
      simp only [Int.natCast_add, Int.natCast_one] at ih
      have hw : IntKind.wrap .i64 ((i : Int) + 1) = (i : Int) + 1 := wrap_in (by omega) (by omega)
      rw [law12_own.L1_1_1_0_1_0_eq]
      simp (disch := omega) only [List.length_map, decide_eq_true (show (i : Int) < (f.breaks.length : Int) by omega), cond_true, if_pos (in_row hi), Int.toNat_natCast, map_at _ _ _ hi, Bk.v_0, Bk.v_1, Bk.v_2, Bk.v_3, asInt_int, asStr_str, asSl_sl, hw, List.length_take, List.length_singleton]
      rw [if_pos (by omega)]
      exact ih
  have first : ∀ i : Nat, i ≤ f.keeps.length → law12_own.L1_1_0_1_0 (i : Int) (f.pairs.map Pai.v) (f.sames.map Pai.v) (f.keeps.map Kp.v) (f.breaks.map Bk.v) (f.watches.map Wt.v) (f.pairs.map Pai.v) (f.sames.map Pai.v) ((f.keeps.take i).map Kp.v) = some ⟨.ret (.agg f.ov), [], none⟩ := by
    have hl := hf.keeps
    refine down ?_ fun i hi ih => ?_
    · rw [law12_own.L1_1_0_1_0_eq, List.take_length]; simpa using second (f.keeps.length : Int) 0 (Nat.zero_le _)
    · rw [List.take_succ_eq_append_getElem hi, List.map_append, List.map_singleton, Kp.v] at ih
      simp only [Int.natCast_add, Int.natCast_one] at ih
      have hw : IntKind.wrap .i64 ((i : Int) + 1) = (i : Int) + 1 := wrap_in (by omega) (by omega)
      rw [law12_own.L1_1_0_1_0_eq]
      simp (disch := omega) only [List.length_map, decide_eq_true (show (i : Int) < (f.keeps.length : Int) by omega), cond_true, if_pos (in_row hi), Int.toNat_natCast, map_at _ _ _ hi, Kp.v_0, Kp.v_1, Kp.v_2, asInt_int, asStr_str, hw, List.length_take, List.length_singleton]
      rw [if_pos (by omega)]
      exact ih
  have h0 := first 0 (Nat.zero_le _)
  rw [Fl.v, law12_own.eq]
  simpa using h0
theorem law12_wide_is (a b : List Prc) (la : a.length ≤ 140737488351232) (lb : b.length ≤ 140737488351232) (oka : ∀ q ∈ a, PrcOk q) (okb : ∀ q ∈ b, PrcOk q) : ∃ g : Bool, den Sp law12_wide.id [.agg [.sl .no T_api_Proc (a.map Prc.v)], .agg [.sl .no T_api_Proc (b.map Prc.v)]] [] none = some ⟨.ret (.bool g), [], none⟩ ∧ (g = false → Prc.sizes a ≤ 500 ∧ Prc.sizes b ≤ 500) := by
  obtain ⟨n, s1, s2, s3⟩ := ref03_Size_is a la oka 500 (by omega) (by omega)
  obtain ⟨m, t1, t2, t3⟩ := ref03_Size_is b lb okb 500 (by omega) (by omega)
  rw [law12_wide.eq, s1]
  by_cases c : 500 < n
  · exact ⟨true, by simp [c], nofun⟩
  · refine ⟨decide (500 < m), by simp [c, t1], fun h => ?_⟩
    have hm : m ≤ 500 := by simpa using h
    have := s3 (by omega)
    have := t3 hm
    omega
end Go.Proofs.YtmhnmelaodhemaaGreatDoor
namespace Go.Proofs.YtmhnmelaodhemaaGreatDoor
open Go Go.Proofs.Ab Go.Proofs.Px
set_option linter.unusedVariables false
set_option linter.unusedSimpArgs false
set_option maxRecDepth 100000
theorem pairsE_none {a b : List Prc} : ∀ {l prev : List Pai} {i : Int}, pairsE a b prev l i = none ↔ ∀ (j : Nat) (h : j < l.length), pairE a b (prev ++ l.take j) l[j] = 0
  | [], prev, i => by simp [pairsE]
  | p :: l, prev, i => by
    unfold pairsE
    by_cases c : pairE a b prev p = 0
    · rw [if_neg (fun h => h c), pairsE_none]
      constructor
      · intro h j hj
        cases j with
        | zero => simpa using c
        | succ j => simpa [List.append_assoc] using h j (by simpa using hj)
      · intro h j hj
        have := h (j + 1) (by simpa using hj)
        simpa [List.append_assoc] using this
    · rw [if_pos c]
      refine ⟨nofun, fun h => absurd ?_ c⟩
      have h2 := h 0 (by simp)
      rw [List.getElem_cons_zero, List.take_zero, List.append_nil] at h2
      exact h2
theorem pairE_0 {a b : List Prc} {prev : List Pai} {p : Pai} : pairE a b prev p = 0 ↔ procQ p.procA a ≠ none ∧ procQ p.procB b ≠ none ∧ ∀ q ∈ prev, q.procA ≠ p.procA ∧ q.procB ≠ p.procB := by
  unfold pairE
  by_cases c1 : procQ p.procA a = none
  · simp [c1]
  · by_cases c2 : procQ p.procB b = none
    · simp [c1, c2]
    · by_cases c3 : prev.any (fun q => decide (q.procA = p.procA) || decide (q.procB = p.procB)) = true
      · simp only [if_neg c1, if_neg c2, if_pos c3]
        rw [List.any_eq_true] at c3
        obtain ⟨q, h1, h2⟩ := c3
        simp only [ne_eq, c1, c2, not_false_eq_true, true_and]
        refine ⟨nofun, fun h => ?_⟩
        obtain ⟨h3, h4⟩ := h q h1
        simp [h3, h4] at h2
      · simp only [if_neg c1, if_neg c2, if_neg c3]
        refine ⟨fun _ => ⟨c1, c2, fun q hq => ?_⟩, fun _ => by trivial⟩
        constructor
        · intro h; exact c3 (List.any_eq_true.2 ⟨q, hq, by simp [h]⟩)
        · intro h; exact c3 (List.any_eq_true.2 ⟨q, hq, by simp [h]⟩)
theorem likeE_0 {o1 o2 : Option Vr} : likeE o1 o2 = 0 ↔ ∃ x y, o1 = some x ∧ o2 = some y ∧ x.type = y.type ∧ x.size = y.size := by
  unfold likeE
  cases o1 with
  | none => simp
  | some x =>
    cases o2 with
    | none => simp
    | some y => by_cases c1 : x.type = y.type <;> by_cases c2 : x.size = y.size <;> simp [c1, c2]
theorem sameE_0 {a b : List Prc} {prs : List Pai} {p : Pai} : sameE a b prs p = 0 ↔ procQ p.procA a ≠ none ∧ procQ p.procB b ≠ none ∧ (∃ q ∈ prs, q.procA = p.procA ∧ q.procB = p.procB) ∧ likeE (declV a p.procA p.varA) (declV b p.procB p.varB) = 0 := by
  unfold sameE
  by_cases c1 : procQ p.procA a = none
  · simp [c1]
  · by_cases c2 : procQ p.procB b = none
    · simp [c1, c2]
    · by_cases c3 : prs.any (fun q => decide (q.procA = p.procA) && decide (q.procB = p.procB)) = true
      · simp only [if_neg c1, if_neg c2, if_pos c3]
        rw [List.any_eq_true] at c3
        obtain ⟨q, h1, h2⟩ := c3
        have h3 : q.procA = p.procA ∧ q.procB = p.procB := by simpa using h2
        exact ⟨fun h => ⟨c1, c2, ⟨q, h1, h3⟩, h⟩, fun h => h.2.2.2⟩
      · simp only [if_neg c1, if_neg c2, if_neg c3]
        refine ⟨nofun, fun h => ?_⟩
        obtain ⟨q, h1, h2, h3⟩ := h.2.2.1
        exact absurd (List.any_eq_true.2 ⟨q, h1, by simp [h2, h3]⟩) c3
theorem orE_0 {k : Int} {o : Option (Int × Int)} {t : Int × Int × Int} (ho : ∀ r, o = some r → r.2 ≠ 0) : (orE k o t).2.2 = 0 ↔ o = none ∧ t.2.2 = 0 := by
  unfold orE
  cases o with
  | none => simp
  | some r => simp [ho r rfl]
structure FitsE (f : Fl) (a b : List Prc) : Prop where
  pairs : ∀ (j : Nat) (h : j < f.pairs.length), pairE a b (f.pairs.take j) f.pairs[j] = 0
  sames : ∀ p ∈ f.sames, sameE a b f.pairs p = 0
  keeps : ∀ k ∈ f.keeps, keepE a b k = 0
  breaks : ∀ x ∈ f.breaks, stopE a b x = 0
  watches : ∀ k ∈ f.watches, watchE a b k = 0
theorem items_fit {f : Fl} {a b : List Prc} : (itemsE f a b).2.2 = 0 ↔ FitsE f a b := by
  unfold itemsE
  rw [orE_0 (fun r => pairsE_ne), orE_0 (fun r => firstE_ne), orE_0 (fun r => firstE_ne), orE_0 (fun r => firstE_ne), orE_0 (fun r => firstE_ne), firstE_none, firstE_none, firstE_none, firstE_none, pairsE_none]
  constructor
  · rintro ⟨h1, h2, h3, h4, h5, _⟩
    exact ⟨fun j h => by simpa using h1 j h, h2, h3, h4, h5⟩
  · rintro ⟨h1, h2, h3, h4, h5⟩
    exact ⟨fun j h => by simpa using h1 j h, h2, h3, h4, h5, rfl⟩
theorem file_fit {f : Fl} {a b : List Prc} : (fileE f a b).2.2 = 0 ↔ (checkP a).2.2 = 0 ∧ (checkP b).2.2 = 0 ∧ FitsE f a b := by
  unfold fileE
  by_cases c1 : (checkP a).2.2 = 0
  · by_cases c2 : (checkP b).2.2 = 0
    · simp [c1, c2, items_fit]
    · simp [c1, c2]
  · simp [c1]
def Pai.turn (p : Pai) : Pai := ⟨p.procB, p.procA, [], []⟩
def Pai.turnS (p : Pai) : Pai := ⟨p.procB, p.procA, p.varB, p.varA⟩
def Fl.turn (f : Fl) : Fl := ⟨f.pairs.map Pai.turn, f.sames.map Pai.turnS, f.keeps.map fun k => ⟨1 - k.side, k.prc, k.vr⟩, f.breaks.map fun x => ⟨1 - x.side, x.prc, x.mark, x.whn⟩, f.watches.map fun k => ⟨1 - k.side, k.prc, k.vr⟩⟩
theorem ofS_sides {n : Int} {a b ps : List Prc} (h : ofS n a b = some ps) : (n = 1 ∨ n = 0) ∧ ofS (1 - n) b a = some ps := by
  unfold ofS at h
  split at h
  · rename_i c; cases h; subst c; exact ⟨.inl rfl, rfl⟩
  · split at h
    · rename_i c; cases h; subst c; exact ⟨.inr rfl, rfl⟩
    · cases h
theorem keepE_side {a b : List Prc} {k : Kp} (h : keepE a b k = 0) : (k.side = 1 ∨ k.side = 0) ∧ keepE b a ⟨1 - k.side, k.prc, k.vr⟩ = 0 := by
  unfold keepE at h
  cases ho : ofS k.side a b with
  | none => rw [ho] at h; cases h
  | some ps =>
    obtain ⟨h1, h2⟩ := ofS_sides ho
    rw [ho] at h
    refine ⟨h1, ?_⟩
    unfold keepE
    simp only [h2]
    exact h
theorem stopE_side {a b : List Prc} {k : Bk} (h : stopE a b k = 0) : (k.side = 1 ∨ k.side = 0) ∧ stopE b a ⟨1 - k.side, k.prc, k.mark, k.whn⟩ = 0 := by
  unfold stopE at h
  cases ho : ofS k.side a b with
  | none => rw [ho] at h; cases h
  | some ps =>
    obtain ⟨h1, h2⟩ := ofS_sides ho
    rw [ho] at h
    refine ⟨h1, ?_⟩
    unfold stopE
    simp only [h2]
    exact h
theorem watchE_side {a b : List Prc} {k : Wt} (h : watchE a b k = 0) : (k.side = 1 ∨ k.side = 0) ∧ watchE b a ⟨1 - k.side, k.prc, k.vr⟩ = 0 := by
  unfold watchE at h
  cases ho : ofS k.side a b with
  | none => rw [ho] at h; cases h
  | some ps =>
    obtain ⟨h1, h2⟩ := ofS_sides ho
    rw [ho] at h
    refine ⟨h1, ?_⟩
    unfold watchE
    simp only [h2]
    exact h
theorem FitsE.turn {f : Fl} {a b : List Prc} (h : FitsE f a b) : FitsE f.turn b a := by
  refine ⟨fun j hj => ?_, fun p hp => ?_, fun p hp => ?_, fun p hp => ?_, fun p hp => ?_⟩
  · have hj' : j < f.pairs.length := by simpa [Fl.turn] using hj
    obtain ⟨h1, h2, h3⟩ := pairE_0.1 (h.pairs j hj')
    have e : f.turn.pairs[j] = f.pairs[j].turn := by simp [Fl.turn]
    rw [e]
    refine pairE_0.2 ⟨h2, h1, fun q hq => ?_⟩
    have hq' : q ∈ (f.pairs.take j).map Pai.turn := by simpa [Fl.turn, List.map_take] using hq
    obtain ⟨q0, h4, rfl⟩ := List.mem_map.1 hq'
    exact ⟨(h3 q0 h4).2, (h3 q0 h4).1⟩
  · obtain ⟨p0, h1, rfl⟩ := List.mem_map.1 hp
    obtain ⟨h2, h3, ⟨q, h4, h5, h6⟩, h7⟩ := sameE_0.1 (h.sames p0 h1)
    obtain ⟨x, y, h8, h9, h10, h11⟩ := likeE_0.1 h7
    exact sameE_0.2 ⟨h3, h2, ⟨q.turn, List.mem_map_of_mem h4, h6, h5⟩, likeE_0.2 ⟨y, x, h9, h8, h10.symm, h11.symm⟩⟩
  · obtain ⟨p0, h1, rfl⟩ := List.mem_map.1 hp
    exact (keepE_side (h.keeps p0 h1)).2
  · obtain ⟨p0, h1, rfl⟩ := List.mem_map.1 hp
    exact (stopE_side (h.breaks p0 h1)).2
  · obtain ⟨p0, h1, rfl⟩ := List.mem_map.1 hp
    exact (watchE_side (h.watches p0 h1)).2
theorem FitsE.nil {a b : List Prc} : FitsE ⟨[], [], [], [], []⟩ a b := ⟨(fun j h => by cases h), nofun, nofun, nofun, nofun⟩
theorem FitsE.less {f : Fl} {a b : List Prc} (h : FitsE f a b) {ss : List Pai} {ks : List Kp} {bs : List Bk} {ws : List Wt} (h1 : ∀ p ∈ ss, p ∈ f.sames) (h2 : ∀ p ∈ ks, p ∈ f.keeps) (h3 : ∀ p ∈ bs, p ∈ f.breaks) (h4 : ∀ p ∈ ws, p ∈ f.watches) :
    FitsE ⟨f.pairs, ss, ks, bs, ws⟩ a b := ⟨h.pairs, fun p hp => h.sames p (h1 p hp), fun p hp => h.keeps p (h2 p hp), fun p hp => h.breaks p (h3 p hp), fun p hp => h.watches p (h4 p hp)⟩
end Go.Proofs.YtmhnmelaodhemaaGreatDoor
namespace Go.Proofs.YtmhnmelaodhemaaGreatDoor
open Go Go.Proofs.Ab
set_option maxRecDepth 100000
set_option linter.unusedVariables false
namespace law12_DeclTurned
noncomputable abbrev e (p : List Nat) := ev Sp (den Sp) id Tryz.f7.ntmps (cAt (bodyOf Tryz.f7) p)
noncomputable abbrev cn (n0 : List Nat) := canon Sp id n0
noncomputable abbrev K : K := kFin Sp (den Sp) Tryz.f7 0
theorem eq (a0_0 a0_1 a0_2 a0_3 a0_4 a1_0 a2_0 : List (List V)) : den Sp id [(V.agg [(V.sl .no T_api_Pair a0_0), (V.sl .no T_api_Pair a0_1), (V.sl .no T_parallaxref12_Keep a0_2), (V.sl .no T_parallaxref12_Break a0_3), (V.sl .no T_parallaxref12_Watch a0_4)]), (V.agg [(V.sl .no T_api_Proc a1_0)]), (V.agg [(V.sl .no T_api_Proc a2_0)])] [] none =
    ((den Sp law12_great.id [(V.agg [(V.sl .no T_api_Pair a0_0), (V.sl .no T_api_Pair a0_1), (V.sl .no T_parallaxref12_Keep a0_2), (V.sl .no T_parallaxref12_Break a0_3), (V.sl .no T_parallaxref12_Watch a0_4)])] [] none)).bind (fun r9 => (Res.onRet r9 (fun v10 => (V.asBool v10 (fun b11 => (bif b11 then ((den Sp law12_known.id [] [] none)).bind (fun r13 => (Res.onRet r13 (fun v14 => (V.asBool v14 (fun b15 => (some ⟨(Out.ret (V.bool b15)), [], none⟩)))))) else ((den Sp law12_wide.id [(V.agg [(V.sl .no T_api_Proc a1_0)]), (V.agg [(V.sl .no T_api_Proc a2_0)])] [] none)).bind (fun r12 => (Res.onRet r12 (fun v13 => (V.asBool v13 (fun b14 => (bif b14 then ((den Sp law12_known.id [] [] none)).bind (fun r16 => (Res.onRet r16 (fun v17 => (V.asBool v17 (fun b18 => (some ⟨(Out.ret (V.bool b18)), [], none⟩)))))) else ((den Sp law12_own.id [(V.agg [(V.sl .no T_api_Pair a0_0), (V.sl .no T_api_Pair a0_1), (V.sl .no T_parallaxref12_Keep a0_2), (V.sl .no T_parallaxref12_Break a0_3), (V.sl .no T_parallaxref12_Watch a0_4)])] [] none)).bind (fun r16 => (Res.onRet r16 (fun v17 => (V.asAgg v17 5 (fun rd18 => (V.asSl (rd18 0) T_api_Pair (fun es19 => (V.asSl (rd18 1) T_api_Pair (fun es20 => (V.asSl (rd18 2) T_decl_Keep (fun es21 => (V.asSl (rd18 3) T_decl_Break (fun es22 => (V.asSl (rd18 4) T_decl_Watch (fun es23 => ((den Sp decl_Check.id [(V.agg [(V.sl .no T_api_Pair es19), (V.sl .no T_api_Pair es20), (V.sl .no T_decl_Keep es21), (V.sl .no T_decl_Break es22), (V.sl .no T_decl_Watch es23)]), (V.agg [(V.sl .no T_api_Proc a1_0)]), (V.agg [(V.sl .no T_api_Proc a2_0)])] [] none)).bind (fun r24 => (Res.onRet r24 (fun v25 => (V.asTup v25 2 (fun rd26 => (V.asAgg (rd26 0) 2 (fun rd27 => (V.asInt (rd27 0) .i64 (fun n28 => (V.asInt (rd27 1) .i64 (fun n29 => (V.asInt (rd26 1) .i64 (fun n30 => (bif (n30 != (0 : Int)) then ((den Sp law12_known.id [] [] none)).bind (fun r33 => (Res.onRet r33 (fun v34 => (V.asBool v34 (fun b35 => (some ⟨(Out.ret (V.bool b35)), [], none⟩)))))) else ((den Sp ref12_Turned.id [(V.agg [(V.sl .no T_api_Pair a0_0), (V.sl .no T_api_Pair a0_1), (V.sl .no T_parallaxref12_Keep a0_2), (V.sl .no T_parallaxref12_Break a0_3), (V.sl .no T_parallaxref12_Watch a0_4)])] [] none)).bind (fun r33 => (Res.onRet r33 (fun v34 => (V.asAgg v34 5 (fun rd35 => (V.asSl (rd35 0) T_api_Pair (fun es36 => (V.asSl (rd35 1) T_api_Pair (fun es37 => (V.asSl (rd35 2) T_parallaxref12_Keep (fun es38 => (V.asSl (rd35 3) T_parallaxref12_Break (fun es39 => (V.asSl (rd35 4) T_parallaxref12_Watch (fun es40 => ((den Sp law12_own.id [(V.agg [(V.sl .no T_api_Pair es36), (V.sl .no T_api_Pair es37), (V.sl .no T_parallaxref12_Keep es38), (V.sl .no T_parallaxref12_Break es39), (V.sl .no T_parallaxref12_Watch es40)])] [] none)).bind (fun r41 => (Res.onRet r41 (fun v42 => (V.asAgg v42 5 (fun rd43 => (V.asSl (rd43 0) T_api_Pair (fun es44 => (V.asSl (rd43 1) T_api_Pair (fun es45 => (V.asSl (rd43 2) T_decl_Keep (fun es46 => (V.asSl (rd43 3) T_decl_Break (fun es47 => (V.asSl (rd43 4) T_decl_Watch (fun es48 => ((den Sp decl_Check.id [(V.agg [(V.sl .no T_api_Pair es44), (V.sl .no T_api_Pair es45), (V.sl .no T_decl_Keep es46), (V.sl .no T_decl_Break es47), (V.sl .no T_decl_Watch es48)]), (V.agg [(V.sl .no T_api_Proc a2_0)]), (V.agg [(V.sl .no T_api_Proc a1_0)])] [] none)).bind (fun r49 => (Res.onRet r49 (fun v50 => (V.asTup v50 2 (fun rd51 => (V.asAgg (rd51 0) 2 (fun rd52 => (V.asInt (rd52 0) .i64 (fun n53 => (V.asInt (rd52 1) .i64 (fun n54 => (V.asInt (rd51 1) .i64 (fun n55 => (bif (n55 == (0 : Int)) then ((den Sp law12_known.id [] [] none)).bind (fun r57 => (Res.onRet r57 (fun v58 => (V.asBool v58 (fun b59 => (some ⟨(Out.ret (V.bool b59)), [], none⟩)))))) else (some ⟨(Out.ret (V.bool false)), [], none⟩)))))))))))))))))))))))))))))))))))))))))))))))))))))))))))))))))))))))))))))))))))))) := (den_eq ..).trans (by kernel_rfl)
end law12_DeclTurned
namespace ref12_Turned
noncomputable abbrev e (p : List Nat) := ev Sp (den Sp) id Tryz.f24.ntmps (cAt (bodyOf Tryz.f24) p)
noncomputable abbrev cn (n0 : List Nat) := canon Sp id n0
noncomputable abbrev K : K := kFin Sp (den Sp) Tryz.f24 0
noncomputable def L1_1_0_1_0 (i0 : Int) (l1 l2 l3 l4 l5 l6 : List (List V)) : Option Res := LP (e [1, 1, 0, 1, 0, 0]) (cn [1001, 1002, 1003]) (kBlk 0 (kSeq (e [1, 1, 1]) (K))) ([(1, (V.ref 1001 0)), (2, (V.ref 1002 0)), (3, (V.ref 1003 0)), (4, (V.int .i64 i0)), (6, V.undef), (8, V.undef), (10, V.undef), (12, V.undef)], ⟨[(1001, (Blk.cells T_parallaxref12_File [(V.sl .no T_api_Pair l1), (V.sl .no T_api_Pair l2), (V.sl .no T_parallaxref12_Keep l3), (V.sl .no T_parallaxref12_Break l4), (V.sl .no T_parallaxref12_Watch l5)] false)), (1002, (Blk.cells T_parallaxref12_File [(V.sl (Tok.row 0) T_api_Pair []), (V.sl (Tok.row 1) T_api_Pair []), (V.sl (Tok.row 2) T_parallaxref12_Keep []), (V.sl (Tok.row 3) T_parallaxref12_Break []), (V.sl (Tok.row 4) T_parallaxref12_Watch [])] false)), (1003, (Blk.cells T_parallaxref12_File [(V.sl (Tok.row 5) T_api_Pair l6), (V.sl (Tok.row 6) T_api_Pair []), (V.sl (Tok.row 7) T_parallaxref12_Keep []), (V.sl (Tok.row 8) T_parallaxref12_Break []), (V.sl (Tok.row 9) T_parallaxref12_Watch [])] false))], [0, 1, 2, 3, 4, 5, 6, 7, 8, 9], [], [], none⟩)
noncomputable def L1_1_1_0_1_0 (i0 i1 : Int) (l2 l3 l4 l5 l6 l7 l8 : List (List V)) : Option Res := LP (e [1, 1, 1, 0, 1, 0, 0]) (cn [1001, 1002, 1003]) (kBlk 2 (kSeq (e [1, 1, 1, 1]) (K))) ([(1, (V.ref 1001 0)), (2, (V.ref 1002 0)), (3, (V.ref 1003 0)), (4, (V.int .i64 i0)), (6, (V.int .i64 i1)), (8, V.undef), (10, V.undef), (12, V.undef)], ⟨[(1001, (Blk.cells T_parallaxref12_File [(V.sl .no T_api_Pair l2), (V.sl .no T_api_Pair l3), (V.sl .no T_parallaxref12_Keep l4), (V.sl .no T_parallaxref12_Break l5), (V.sl .no T_parallaxref12_Watch l6)] false)), (1002, (Blk.cells T_parallaxref12_File [(V.sl (Tok.row 0) T_api_Pair []), (V.sl (Tok.row 1) T_api_Pair []), (V.sl (Tok.row 2) T_parallaxref12_Keep []), (V.sl (Tok.row 3) T_parallaxref12_Break []), (V.sl (Tok.row 4) T_parallaxref12_Watch [])] false)), (1003, (Blk.cells T_parallaxref12_File [(V.sl (Tok.row 5) T_api_Pair l7), (V.sl (Tok.row 6) T_api_Pair l8), (V.sl (Tok.row 7) T_parallaxref12_Keep []), (V.sl (Tok.row 8) T_parallaxref12_Break []), (V.sl (Tok.row 9) T_parallaxref12_Watch [])] false))], [0, 1, 2, 3, 4, 5, 6, 7, 8, 9], [], [], none⟩)
noncomputable def L1_1_1_1_0_1_0 (i0 i1 i2 : Int) (l3 l4 l5 l6 l7 l8 l9 l10 : List (List V)) : Option Res := LP (e [1, 1, 1, 1, 0, 1, 0, 0]) (cn [1001, 1002, 1003]) (kBlk 4 (kSeq (e [1, 1, 1, 1, 1]) (K))) ([(1, (V.ref 1001 0)), (2, (V.ref 1002 0)), (3, (V.ref 1003 0)), (4, (V.int .i64 i0)), (6, (V.int .i64 i1)), (8, (V.int .i64 i2)), (10, V.undef), (12, V.undef)], ⟨[(1001, (Blk.cells T_parallaxref12_File [(V.sl .no T_api_Pair l3), (V.sl .no T_api_Pair l4), (V.sl .no T_parallaxref12_Keep l5), (V.sl .no T_parallaxref12_Break l6), (V.sl .no T_parallaxref12_Watch l7)] false)), (1002, (Blk.cells T_parallaxref12_File [(V.sl (Tok.row 0) T_api_Pair []), (V.sl (Tok.row 1) T_api_Pair []), (V.sl (Tok.row 2) T_parallaxref12_Keep []), (V.sl (Tok.row 3) T_parallaxref12_Break []), (V.sl (Tok.row 4) T_parallaxref12_Watch [])] false)), (1003, (Blk.cells T_parallaxref12_File [(V.sl (Tok.row 5) T_api_Pair l8), (V.sl (Tok.row 6) T_api_Pair l9), (V.sl (Tok.row 7) T_parallaxref12_Keep l10), (V.sl (Tok.row 8) T_parallaxref12_Break []), (V.sl (Tok.row 9) T_parallaxref12_Watch [])] false))], [0, 1, 2, 3, 4, 5, 6, 7, 8, 9], [], [], none⟩)
noncomputable def L1_1_1_1_1_0_1_0 (i0 i1 i2 i3 : Int) (l4 l5 l6 l7 l8 l9 l10 l11 l12 : List (List V)) : Option Res := LP (e [1, 1, 1, 1, 1, 0, 1, 0, 0]) (cn [1001, 1002, 1003]) (kBlk 6 (kSeq (e [1, 1, 1, 1, 1, 1]) (K))) ([(1, (V.ref 1001 0)), (2, (V.ref 1002 0)), (3, (V.ref 1003 0)), (4, (V.int .i64 i0)), (6, (V.int .i64 i1)), (8, (V.int .i64 i2)), (10, (V.int .i64 i3)), (12, V.undef)], ⟨[(1001, (Blk.cells T_parallaxref12_File [(V.sl .no T_api_Pair l4), (V.sl .no T_api_Pair l5), (V.sl .no T_parallaxref12_Keep l6), (V.sl .no T_parallaxref12_Break l7), (V.sl .no T_parallaxref12_Watch l8)] false)), (1002, (Blk.cells T_parallaxref12_File [(V.sl (Tok.row 0) T_api_Pair []), (V.sl (Tok.row 1) T_api_Pair []), (V.sl (Tok.row 2) T_parallaxref12_Keep []), (V.sl (Tok.row 3) T_parallaxref12_Break []), (V.sl (Tok.row 4) T_parallaxref12_Watch [])] false)), (1003, (Blk.cells T_parallaxref12_File [(V.sl (Tok.row 5) T_api_Pair l9), (V.sl (Tok.row 6) T_api_Pair l10), (V.sl (Tok.row 7) T_parallaxref12_Keep l11), (V.sl (Tok.row 8) T_parallaxref12_Break l12), (V.sl (Tok.row 9) T_parallaxref12_Watch [])] false))], [0, 1, 2, 3, 4, 5, 6, 7, 8, 9], [], [], none⟩)
noncomputable def L1_1_1_1_1_1_0_1_0 (i0 i1 i2 i3 i4 : Int) (l5 l6 l7 l8 l9 l10 l11 l12 l13 l14 : List (List V)) : Option Res := LP (e [1, 1, 1, 1, 1, 1, 0, 1, 0, 0]) (cn [1001, 1002, 1003]) (kBlk 8 (kSeq (e [1, 1, 1, 1, 1, 1, 1]) (K))) ([(1, (V.ref 1001 0)), (2, (V.ref 1002 0)), (3, (V.ref 1003 0)), (4, (V.int .i64 i0)), (6, (V.int .i64 i1)), (8, (V.int .i64 i2)), (10, (V.int .i64 i3)), (12, (V.int .i64 i4))], ⟨[(1001, (Blk.cells T_parallaxref12_File [(V.sl .no T_api_Pair l5), (V.sl .no T_api_Pair l6), (V.sl .no T_parallaxref12_Keep l7), (V.sl .no T_parallaxref12_Break l8), (V.sl .no T_parallaxref12_Watch l9)] false)), (1002, (Blk.cells T_parallaxref12_File [(V.sl (Tok.row 0) T_api_Pair []), (V.sl (Tok.row 1) T_api_Pair []), (V.sl (Tok.row 2) T_parallaxref12_Keep []), (V.sl (Tok.row 3) T_parallaxref12_Break []), (V.sl (Tok.row 4) T_parallaxref12_Watch [])] false)), (1003, (Blk.cells T_parallaxref12_File [(V.sl (Tok.row 5) T_api_Pair l10), (V.sl (Tok.row 6) T_api_Pair l11), (V.sl (Tok.row 7) T_parallaxref12_Keep l12), (V.sl (Tok.row 8) T_parallaxref12_Break l13), (V.sl (Tok.row 9) T_parallaxref12_Watch l14)] false))], [0, 1, 2, 3, 4, 5, 6, 7, 8, 9], [], [], none⟩)
theorem L1_1_0_1_0_eq (i0 : Int) (l1 l2 l3 l4 l5 l6 : List (List V)) : L1_1_0_1_0 i0 l1 l2 l3 l4 l5 l6 =
    (bif (decide (i0 < (l1.length : Int))) then (if (((0 : Int) ≤ i0) ∧ (i0 < (l1.length : Int))) then (V.asStr (List.getD (List.getD l1 (Int.toNat i0) []) 0 V.undef) (fun s17 => (V.asStr (List.getD (List.getD l1 (Int.toNat i0) []) 1 V.undef) (fun s18 => (V.asStr (List.getD (List.getD l1 (Int.toNat i0) []) 2 V.undef) (fun s19 => (V.asStr (List.getD (List.getD l1 (Int.toNat i0) []) 3 V.undef) (fun s20 => (if (((List.length l6) + (List.length [[(V.str s18), (V.str s17), (V.str (ByteArray.mk #[])), (V.str (ByteArray.mk #[]))]])) ≤ most) then (L1_1_0_1_0 (IntKind.wrap .i64 (i0 + (1 : Int))) l1 l2 l3 l4 l5 (l6 ++ [[(V.str s18), (V.str s17), (V.str (ByteArray.mk #[])), (V.str (ByteArray.mk #[]))]])) else none))))))))) else none) else (L1_1_1_0_1_0 i0 (0 : Int) l1 l2 l3 l4 l5 l6 [])) := (LP_eq ..).trans (by kernel_rfl)
theorem L1_1_1_0_1_0_eq (i0 i1 : Int) (l2 l3 l4 l5 l6 l7 l8 : List (List V)) : L1_1_1_0_1_0 i0 i1 l2 l3 l4 l5 l6 l7 l8 =
    (bif (decide (i1 < (l3.length : Int))) then (if (((0 : Int) ≤ i1) ∧ (i1 < (l3.length : Int))) then (V.asStr (List.getD (List.getD l3 (Int.toNat i1) []) 0 V.undef) (fun s28 => (V.asStr (List.getD (List.getD l3 (Int.toNat i1) []) 1 V.undef) (fun s29 => (V.asStr (List.getD (List.getD l3 (Int.toNat i1) []) 2 V.undef) (fun s30 => (V.asStr (List.getD (List.getD l3 (Int.toNat i1) []) 3 V.undef) (fun s31 => (if (((List.length l8) + (List.length [[(V.str s29), (V.str s28), (V.str s31), (V.str s30)]])) ≤ most) then (L1_1_1_0_1_0 i0 (IntKind.wrap .i64 (i1 + (1 : Int))) l2 l3 l4 l5 l6 l7 (l8 ++ [[(V.str s29), (V.str s28), (V.str s31), (V.str s30)]])) else none))))))))) else none) else (L1_1_1_1_0_1_0 i0 i1 (0 : Int) l2 l3 l4 l5 l6 l7 l8 [])) := (LP_eq ..).trans (by kernel_rfl)
theorem L1_1_1_1_0_1_0_eq (i0 i1 i2 : Int) (l3 l4 l5 l6 l7 l8 l9 l10 : List (List V)) : L1_1_1_1_0_1_0 i0 i1 i2 l3 l4 l5 l6 l7 l8 l9 l10 =
    (bif (decide (i2 < (l5.length : Int))) then (if (((0 : Int) ≤ i2) ∧ (i2 < (l5.length : Int))) then (V.asInt (List.getD (List.getD l5 (Int.toNat i2) []) 0 V.undef) .i64 (fun n41 => (V.asStr (List.getD (List.getD l5 (Int.toNat i2) []) 1 V.undef) (fun s42 => (V.asStr (List.getD (List.getD l5 (Int.toNat i2) []) 2 V.undef) (fun s43 => (if (((List.length l10) + (List.length [[(V.int .i64 (IntKind.wrap .i64 ((1 : Int) - n41))), (V.str s42), (V.str s43)]])) ≤ most) then (L1_1_1_1_0_1_0 i0 i1 (IntKind.wrap .i64 (i2 + (1 : Int))) l3 l4 l5 l6 l7 l8 l9 (l10 ++ [[(V.int .i64 (IntKind.wrap .i64 ((1 : Int) - n41))), (V.str s42), (V.str s43)]])) else none))))))) else none) else (L1_1_1_1_1_0_1_0 i0 i1 i2 (0 : Int) l3 l4 l5 l6 l7 l8 l9 l10 [])) := (LP_eq ..).trans (by kernel_rfl)
theorem L1_1_1_1_1_0_1_0_eq (i0 i1 i2 i3 : Int) (l4 l5 l6 l7 l8 l9 l10 l11 l12 : List (List V)) : L1_1_1_1_1_0_1_0 i0 i1 i2 i3 l4 l5 l6 l7 l8 l9 l10 l11 l12 =
    (bif (decide (i3 < (l7.length : Int))) then (if (((0 : Int) ≤ i3) ∧ (i3 < (l7.length : Int))) then (V.asInt (List.getD (List.getD l7 (Int.toNat i3) []) 0 V.undef) .i64 (fun n56 => (V.asStr (List.getD (List.getD l7 (Int.toNat i3) []) 1 V.undef) (fun s57 => (V.asInt (List.getD (List.getD l7 (Int.toNat i3) []) 2 V.undef) .i64 (fun n58 => (V.asSl (List.getD (List.getD l7 (Int.toNat i3) []) 3 V.undef) T_api_Expr (fun es59 => (if (((List.length l12) + (List.length [[(V.int .i64 (IntKind.wrap .i64 ((1 : Int) - n56))), (V.str s57), (V.int .i64 n58), (V.sl .no T_api_Expr es59)]])) ≤ most) then (L1_1_1_1_1_0_1_0 i0 i1 i2 (IntKind.wrap .i64 (i3 + (1 : Int))) l4 l5 l6 l7 l8 l9 l10 l11 (l12 ++ [[(V.int .i64 (IntKind.wrap .i64 ((1 : Int) - n56))), (V.str s57), (V.int .i64 n58), (V.sl .no T_api_Expr es59)]])) else none))))))))) else none) else (L1_1_1_1_1_1_0_1_0 i0 i1 i2 i3 (0 : Int) l4 l5 l6 l7 l8 l9 l10 l11 l12 [])) := (LP_eq ..).trans (by kernel_rfl)
theorem L1_1_1_1_1_1_0_1_0_eq (i0 i1 i2 i3 i4 : Int) (l5 l6 l7 l8 l9 l10 l11 l12 l13 l14 : List (List V)) : L1_1_1_1_1_1_0_1_0 i0 i1 i2 i3 i4 l5 l6 l7 l8 l9 l10 l11 l12 l13 l14 =
    (bif (decide (i4 < (l9.length : Int))) then (if (((0 : Int) ≤ i4) ∧ (i4 < (l9.length : Int))) then (V.asInt (List.getD (List.getD l9 (Int.toNat i4) []) 0 V.undef) .i64 (fun n73 => (V.asStr (List.getD (List.getD l9 (Int.toNat i4) []) 1 V.undef) (fun s74 => (V.asStr (List.getD (List.getD l9 (Int.toNat i4) []) 2 V.undef) (fun s75 => (if (((List.length l14) + (List.length [[(V.int .i64 (IntKind.wrap .i64 ((1 : Int) - n73))), (V.str s74), (V.str s75)]])) ≤ most) then (L1_1_1_1_1_1_0_1_0 i0 i1 i2 i3 (IntKind.wrap .i64 (i4 + (1 : Int))) l5 l6 l7 l8 l9 l10 l11 l12 l13 (l14 ++ [[(V.int .i64 (IntKind.wrap .i64 ((1 : Int) - n73))), (V.str s74), (V.str s75)]])) else none))))))) else none) else (some ⟨(Out.ret (V.agg [(V.sl .no T_api_Pair l10), (V.sl .no T_api_Pair l11), (V.sl .no T_parallaxref12_Keep l12), (V.sl .no T_parallaxref12_Break l13), (V.sl .no T_parallaxref12_Watch l14)])), [], none⟩)) := (LP_eq ..).trans (by kernel_rfl)
theorem eq (a0_0 a0_1 a0_2 a0_3 a0_4 : List (List V)) : den Sp id [(V.agg [(V.sl .no T_api_Pair a0_0), (V.sl .no T_api_Pair a0_1), (V.sl .no T_parallaxref12_Keep a0_2), (V.sl .no T_parallaxref12_Break a0_3), (V.sl .no T_parallaxref12_Watch a0_4)])] [] none =
    (L1_1_0_1_0 (0 : Int) a0_0 a0_1 a0_2 a0_3 a0_4 []) := (den_eq ..).trans (by kernel_rfl)
end ref12_Turned
end Go.Proofs.YtmhnmelaodhemaaGreatDoor
namespace Go.Proofs.YtmhnmelaodhemaaGreatDoor
open Go Go.Proofs.Ab Go.Proofs.Px
set_option linter.unusedVariables false
set_option linter.unusedSimpArgs false
set_option maxRecDepth 100000
theorem side_turn {n : Int} (h : n = 1 ∨ n = 0) : IntKind.wrap .i64 (1 - n) = 1 - n := by
  rcases h with rfl | rfl <;> rfl
theorem ref12_Turned_is (f : Fl) (hf : SmallF f) (h1 : ∀ k ∈ f.keeps, k.side = 1 ∨ k.side = 0) (h2 : ∀ k ∈ f.breaks, k.side = 1 ∨ k.side = 0) (h3 : ∀ k ∈ f.watches, k.side = 1 ∨ k.side = 0) :
    den Sp ref12_Turned.id [.agg f.v] [] none = some ⟨.ret (.agg f.turn.v), [], none⟩ := by
  have hm : most = 1099511627776 := rfl
  have fifth : ∀ (x y z u : Int), ∀ i : Nat, i ≤ f.watches.length → ref12_Turned.L1_1_1_1_1_1_0_1_0 x y z u (i : Int) (f.pairs.map Pai.v) (f.sames.map Pai.v) (f.keeps.map Kp.v) (f.breaks.map Bk.v) (f.watches.map Wt.v) (f.turn.pairs.map Pai.v) (f.turn.sames.map Pai.v) (f.turn.keeps.map Kp.v) (f.turn.breaks.map Bk.v) ((f.turn.watches.take i).map Wt.v) = some ⟨.ret (.agg f.turn.v), [], none⟩ := by
    intro x y z u
    have hl := hf.watches
    have hlt : f.turn.watches.length = f.watches.length := by simp [Fl.turn]
    refine down ?_ fun i hi ih => ?_
    · rw [ref12_Turned.L1_1_1_1_1_1_0_1_0_eq, ← hlt, List.take_length]; simp [Fl.v, hlt]
    · have e : f.turn.watches[i]'(by omega) = ⟨1 - f.watches[i].side, f.watches[i].prc, f.watches[i].vr⟩ := by simp [Fl.turn]
      rw [List.take_succ_eq_append_getElem (by omega), List.map_append, List.map_singleton, e, Wt.v] at ih
      simp only [Int.natCast_add, Int.natCast_one] at ih
      have hw : IntKind.wrap .i64 ((i : Int) + 1) = (i : Int) + 1 := wrap_in (by omega) (by omega)
      have hs := side_turn (h3 _ (List.getElem_mem hi))
      rw [ref12_Turned.L1_1_1_1_1_1_0_1_0_eq]
      simp (disch := omega) only [List.length_map, decide_eq_true (show (i : Int) < (f.watches.length : Int) by omega), cond_true, if_pos (in_row hi), Int.toNat_natCast, map_at _ _ _ hi, Wt.v_0, Wt.v_1, Wt.v_2, asInt_int, asStr_str, hw, hs, List.length_take, List.length_singleton]
      rw [if_pos (by omega)]
      exact ih
  have fourth : ∀ (x y z : Int), ∀ i : Nat, i ≤ f.breaks.length → ref12_Turned.L1_1_1_1_1_0_1_0 x y z (i : Int) (f.pairs.map Pai.v) (f.sames.map Pai.v) (f.keeps.map Kp.v) (f.breaks.map Bk.v) (f.watches.map Wt.v) (f.turn.pairs.map Pai.v) (f.turn.sames.map Pai.v) (f.turn.keeps.map Kp.v) ((f.turn.breaks.take i).map Bk.v) = some ⟨.ret (.agg f.turn.v), [], none⟩ := by
    intro x y z
    have hl := hf.breaks
    have hlt : f.turn.breaks.length = f.breaks.length := by simp [Fl.turn]
    refine down ?_ fun i hi ih => ?_
    · rw [ref12_Turned.L1_1_1_1_1_0_1_0_eq, ← hlt, List.take_length]; simpa [hlt] using fifth x y z (f.breaks.length : Int) 0 (Nat.zero_le _)
    · have e : f.turn.breaks[i]'(by omega) = ⟨1 - f.breaks[i].side, f.breaks[i].prc, f.breaks[i].mark, f.breaks[i].whn⟩ := by simp [Fl.turn]
      rw [List.take_succ_eq_append_getElem (by omega), List.map_append, List.map_singleton, e, Bk.v] at ih
      simp only [Int.natCast_add, Int.natCast_one] at ih
      have hw : IntKind.wrap .i64 ((i : Int) + 1) = (i : Int) + 1 := wrap_in (by omega) (by omega)
      have hs := side_turn (h2 _ (List.getElem_mem hi))
      rw [ref12_Turned.L1_1_1_1_1_0_1_0_eq]
      simp (disch := omega) only [List.length_map, decide_eq_true (show (i : Int) < (f.breaks.length : Int) by omega), cond_true, if_pos (in_row hi), Int.toNat_natCast, map_at _ _ _ hi, Bk.v_0, Bk.v_1, Bk.v_2, Bk.v_3, asInt_int, asStr_str, asSl_sl, hw, hs, List.length_take, List.length_singleton]
      rw [if_pos (by omega)]
      exact ih
  have third : ∀ (x y : Int), ∀ i : Nat, i ≤ f.keeps.length → ref12_Turned.L1_1_1_1_0_1_0 x y (i : Int) (f.pairs.map Pai.v) (f.sames.map Pai.v) (f.keeps.map Kp.v) (f.breaks.map Bk.v) (f.watches.map Wt.v) (f.turn.pairs.map Pai.v) (f.turn.sames.map Pai.v) ((f.turn.keeps.take i).map Kp.v) = some ⟨.ret (.agg f.turn.v), [], none⟩ := by
    intro x y
    have hl := hf.keeps
    have hlt : f.turn.keeps.length = f.keeps.length := by simp [Fl.turn]
    refine down ?_ fun i hi ih => ?_
    · rw [ref12_Turned.L1_1_1_1_0_1_0_eq, ← hlt, List.take_length]; simpa [hlt] using fourth x y (f.keeps.length : Int) 0 (Nat.zero_le _)
    · have e : f.turn.keeps[i]'(by omega) = ⟨1 - f.keeps[i].side, f.keeps[i].prc, f.keeps[i].vr⟩ := by simp [Fl.turn]
      rw [List.take_succ_eq_append_getElem (by omega), List.map_append, List.map_singleton, e, Kp.v] at ih
      simp only [Int.natCast_add, Int.natCast_one] at ih
      have hw : IntKind.wrap .i64 ((i : Int) + 1) = (i : Int) + 1 := wrap_in (by omega) (by omega)
      have hs := side_turn (h1 _ (List.getElem_mem hi))
      rw [ref12_Turned.L1_1_1_1_0_1_0_eq]
      simp (disch := omega) only [List.length_map, decide_eq_true (show (i : Int) < (f.keeps.length : Int) by omega), cond_true, if_pos (in_row hi), Int.toNat_natCast, map_at _ _ _ hi, Kp.v_0, Kp.v_1, Kp.v_2, asInt_int, asStr_str, hw, hs, List.length_take, List.length_singleton]
      rw [if_pos (by omega)]
      exact ih
  have second : ∀ (x : Int), ∀ i : Nat, i ≤ f.sames.length → ref12_Turned.L1_1_1_0_1_0 x (i : Int) (f.pairs.map Pai.v) (f.sames.map Pai.v) (f.keeps.map Kp.v) (f.breaks.map Bk.v) (f.watches.map Wt.v) (f.turn.pairs.map Pai.v) ((f.turn.sames.take i).map Pai.v) = some ⟨.ret (.agg f.turn.v), [], none⟩ := by
    intro x
    have hl := hf.sames
    have hlt : f.turn.sames.length = f.sames.length := by simp [Fl.turn]
    refine down ?_ fun i hi ih => ?_
    · rw [ref12_Turned.L1_1_1_0_1_0_eq, ← hlt, List.take_length]; simpa [hlt] using third x (f.sames.length : Int) 0 (Nat.zero_le _)
    · have e : f.turn.sames[i]'(by omega) = ⟨f.sames[i].procB, f.sames[i].procA, f.sames[i].varB, f.sames[i].varA⟩ := by simp [Fl.turn, Pai.turnS]
      rw [List.take_succ_eq_append_getElem (by omega), List.map_append, List.map_singleton, e, Pai.v] at ih
      simp only [Int.natCast_add, Int.natCast_one] at ih
      have hw : IntKind.wrap .i64 ((i : Int) + 1) = (i : Int) + 1 := wrap_in (by omega) (by omega)
      rw [ref12_Turned.L1_1_1_0_1_0_eq]
      simp (disch := omega) only [List.length_map, decide_eq_true (show (i : Int) < (f.sames.length : Int) by omega), cond_true, if_pos (in_row hi), Int.toNat_natCast, map_at _ _ _ hi, Pai.v_0, Pai.v_1, Pai.v_2, Pai.v_3, asStr_str, hw, List.length_take, List.length_singleton]
      rw [if_pos (by omega)]
      exact ih
  have first : ∀ i : Nat, i ≤ f.pairs.length → ref12_Turned.L1_1_0_1_0 (i : Int) (f.pairs.map Pai.v) (f.sames.map Pai.v) (f.keeps.map Kp.v) (f.breaks.map Bk.v) (f.watches.map Wt.v) ((f.turn.pairs.take i).map Pai.v) = some ⟨.ret (.agg f.turn.v), [], none⟩ := by
    have hl := hf.pairs
    have hlt : f.turn.pairs.length = f.pairs.length := by simp [Fl.turn]
    refine down ?_ fun i hi ih => ?_
    · rw [ref12_Turned.L1_1_0_1_0_eq, ← hlt, List.take_length]; simpa [hlt] using second (f.pairs.length : Int) 0 (Nat.zero_le _)
    · have e : f.turn.pairs[i]'(by omega) = ⟨f.pairs[i].procB, f.pairs[i].procA, [], []⟩ := by simp [Fl.turn, Pai.turn]
      rw [List.take_succ_eq_append_getElem (by omega), List.map_append, List.map_singleton, e, Pai.v] at ih
      simp only [Int.natCast_add, Int.natCast_one] at ih
      have hw : IntKind.wrap .i64 ((i : Int) + 1) = (i : Int) + 1 := wrap_in (by omega) (by omega)
      rw [ref12_Turned.L1_1_0_1_0_eq]
      simp (disch := omega) only [List.length_map, decide_eq_true (show (i : Int) < (f.pairs.length : Int) by omega), cond_true, if_pos (in_row hi), Int.toNat_natCast, map_at _ _ _ hi, Pai.v_0, Pai.v_1, Pai.v_2, Pai.v_3, asStr_str, hw, List.length_take, List.length_singleton]
      rw [if_pos (by omega)]
      exact ih
  have h0 := first 0 (Nat.zero_le _)
  rw [Fl.v, ref12_Turned.eq]
  simpa using h0
theorem SmallF.turn {f : Fl} (h : SmallF f) : SmallF f.turn := by
  refine ⟨by simpa [Fl.turn] using h.pairs, by simpa [Fl.turn] using h.sames, by simpa [Fl.turn] using h.keeps, by simpa [Fl.turn] using h.breaks, by simpa [Fl.turn] using h.watches, fun x hx => ?_, fun x hx => ?_⟩
  · obtain ⟨y, h1, rfl⟩ := List.mem_map.1 hx
    exact h.whn y h1
  · obtain ⟨y, h1, rfl⟩ := List.mem_map.1 hx
    exact h.mark y h1
theorem declTurned_den (x0 : List V) (h0 : Fits Sp.P Sp.pz T_parallaxref12_File x0) (x1 : List V) (h1 : Fits Sp.P Sp.pz T_api_Prog x1) (x2 : List V) (h2 : Fits Sp.P Sp.pz T_api_Prog x2) : den Sp law12_DeclTurned.id [.agg x0, .agg x1, .agg x2] [] none = some ⟨.ret (.bool true), [], none⟩ := by
  obtain ⟨f, rfl, hf⟩ := Fl_in h0
  obtain ⟨⟨a⟩, rfl, ha⟩ := Prg_in h1
  obtain ⟨⟨b⟩, rfl, hb⟩ := Prg_in h2
  have oka := ha.procs
  have okb := hb.procs
  simp only at oka okb
  obtain ⟨g, g1, g2⟩ := law12_great_is f hf
  obtain ⟨w, w1, w2⟩ := law12_wide_is a b oka.1 okb.1 oka.2 okb.2
  rw [Prg.v_mk, Prg.v_mk, Fl.v, law12_DeclTurned.eq, law12_known_is]
  rw [Fl.v] at g1
  rw [g1]
  cases g with
  | true => simp
  | false =>
    rw [w1]
    cases w with
    | true => simp
    | false =>
      have hsf := (g2 rfl).small hf
      obtain ⟨sa, sb⟩ := w2 rfl
      have ho := law12_own_is f hsf
      have hc := decl_Check_is f a b (Smalls.of (by omega)) (Smalls.of (by omega)) hsf oka.2 okb.2 (by omega) (by omega)
      rw [Fl.v] at ho
      rw [ho]
      unfold Fl.ov
      by_cases he : (fileE f a b).2.2 = 0
      · obtain ⟨e1, e2, e3⟩ := file_fit.1 he
        have ht := ref12_Turned_is f hsf (fun k hk => (keepE_side (e3.keeps k hk)).1) (fun k hk => (stopE_side (e3.breaks k hk)).1) (fun k hk => (watchE_side (e3.watches k hk)).1)
        have ho2 := law12_own_is f.turn hsf.turn
        have hc2 := decl_Check_is f.turn b a (Smalls.of (by omega)) (Smalls.of (by omega)) hsf.turn okb.2 oka.2 (by omega) (by omega)
        have he2 : (fileE f.turn b a).2.2 = 0 := file_fit.2 ⟨e2, e1, e3.turn⟩
        rw [Fl.v] at ht
        simp only [Option.bind_some, onRet_ret, asAgg_5, asTup_2, asAgg_2, List.getD_cons_zero, List.getD_cons_succ, asSl_sl, asBool_bool, asInt_int, cond_false, cond_true, hc, toldE, he, ht, bne_self_eq_false, Fl.v]
        rw [Fl.v] at ho2
        rw [ho2]
        unfold Fl.ov
        simp only [Option.bind_some, onRet_ret, asAgg_5, asTup_2, asAgg_2, List.getD_cons_zero, List.getD_cons_succ, asSl_sl, asBool_bool, asInt_int, cond_false, cond_true, hc2, toldE, he2, beq_self_eq_true]
      · simp [hc, toldE, he]
end Go.Proofs.YtmhnmelaodhemaaGreatDoor
