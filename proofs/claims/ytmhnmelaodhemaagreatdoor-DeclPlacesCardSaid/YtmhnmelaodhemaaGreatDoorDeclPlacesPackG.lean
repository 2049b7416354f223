/- Own texts under the law DeclPlaces, merged, without what it does not lean on: part 7 of 7 (the abstract machine and its proof; residual forms; contracts; the plain law). -/
import Derived.Test.YtmhnmelaodhemaaGreatDoorDeclPlacesPackF
import Derived.KernelRfl
set_option linter.unusedVariables false
set_option linter.unusedSimpArgs false
set_option linter.unusedSectionVars false
set_option maxRecDepth 100000
namespace Go.Proofs.YtmhnmelaodhemaaGreatDoor
open Go Go.Proofs.Ab
namespace ref03_In_fail
theorem eq (m0_0 : List (List V)) (m0_1 m0_2 m0_3 a1 : Int) : den Sp id [V.ref 0 0, V.int .i64 a1] [Blk.cells T_parallaxref03_In [V.sl .no T_api_Token m0_0, V.int .i64 m0_1, V.int .i64 m0_2, V.int .i64 m0_3] false] none =
  (bif (m0_2 == (0 : Int)) then (if (((0 : Int) <= m0_1) ∧ (m0_1 < (m0_0.length : Int))) then (V.asInt (List.getD (List.getD m0_0 (Int.toNat m0_1) []) 3 V.undef) .i64 (fun n8 => some ⟨Out.ret (V.tup []), [Blk.cells T_parallaxref03_In [V.sl .no T_api_Token m0_0, V.int .i64 m0_1, V.int .i64 a1, V.int .i64 n8] false], none⟩)) else none) else (some ⟨Out.ret (V.tup []), [Blk.cells T_parallaxref03_In [V.sl .no T_api_Token m0_0, V.int .i64 m0_1, V.int .i64 m0_2, V.int .i64 m0_3] false], none⟩)) := (den_eq ..).trans (by kernel_rfl)
end ref03_In_fail
namespace ref03_In_kind
theorem eq (m0_0 : List (List V)) (m0_1 m0_2 m0_3 a1 : Int) : den Sp id [V.ref 0 0, V.int .i64 a1] [Blk.cells T_parallaxref03_In [V.sl .no T_api_Token m0_0, V.int .i64 m0_1, V.int .i64 m0_2, V.int .i64 m0_3] false] none =
  (bif (m0_2 == (0 : Int)) then (if (((0 : Int) <= m0_1) ∧ (m0_1 < (m0_0.length : Int))) then (V.asInt (List.getD (List.getD m0_0 (Int.toNat m0_1) []) 0 V.undef) .i64 (fun n7 => some ⟨Out.ret (V.bool (n7 == a1)), [Blk.cells T_parallaxref03_In [V.sl .no T_api_Token m0_0, V.int .i64 m0_1, V.int .i64 m0_2, V.int .i64 m0_3] false], none⟩)) else none) else (some ⟨Out.ret (V.bool false), [Blk.cells T_parallaxref03_In [V.sl .no T_api_Token m0_0, V.int .i64 m0_1, V.int .i64 m0_2, V.int .i64 m0_3] false], none⟩)) := (den_eq ..).trans (by kernel_rfl)
end ref03_In_kind
namespace ref03_In_is
theorem eq (m0_0 : List (List V)) (m0_1 m0_2 m0_3 : Int) (a1 : ByteArray) : den Sp id [V.ref 0 0, V.str a1] [Blk.cells T_parallaxref03_In [V.sl .no T_api_Token m0_0, V.int .i64 m0_1, V.int .i64 m0_2, V.int .i64 m0_3] false] none =
  (if (((0 : Int) <= m0_1) ∧ (m0_1 < (m0_0.length : Int))) then (V.asInt (List.getD (List.getD m0_0 (Int.toNat m0_1) []) 0 V.undef) .i64 (fun n7 => V.asStr (List.getD (List.getD m0_0 (Int.toNat m0_1) []) 1 V.undef) (fun s8 => V.asInt (List.getD (List.getD m0_0 (Int.toNat m0_1) []) 2 V.undef) .i64 (fun n9 => V.asInt (List.getD (List.getD m0_0 (Int.toNat m0_1) []) 3 V.undef) .i64 (fun n10 => bif (m0_2 == (0 : Int)) then (bif (decide (s8 = a1)) then (bif (n7 == (3 : Int)) then (some ⟨Out.ret (V.bool true), [Blk.cells T_parallaxref03_In [V.sl .no T_api_Token m0_0, V.int .i64 m0_1, V.int .i64 m0_2, V.int .i64 m0_3] false], none⟩) else (some ⟨Out.ret (V.bool (n7 == (4 : Int))), [Blk.cells T_parallaxref03_In [V.sl .no T_api_Token m0_0, V.int .i64 m0_1, V.int .i64 m0_2, V.int .i64 m0_3] false], none⟩)) else (some ⟨Out.ret (V.bool false), [Blk.cells T_parallaxref03_In [V.sl .no T_api_Token m0_0, V.int .i64 m0_1, V.int .i64 m0_2, V.int .i64 m0_3] false], none⟩)) else (some ⟨Out.ret (V.bool false), [Blk.cells T_parallaxref03_In [V.sl .no T_api_Token m0_0, V.int .i64 m0_1, V.int .i64 m0_2, V.int .i64 m0_3] false], none⟩)))))) else none) := (den_eq ..).trans (by kernel_rfl)
end ref03_In_is
namespace ref03_In_got
theorem eq (m0_0 : List (List V)) (m0_1 m0_2 m0_3 : Int) (a1 : ByteArray) : den Sp id [V.ref 0 0, V.str a1] [Blk.cells T_parallaxref03_In [V.sl .no T_api_Token m0_0, V.int .i64 m0_1, V.int .i64 m0_2, V.int .i64 m0_3] false] none =
  (den Sp ref03_In_is.id [V.ref 0 0, V.str a1] [Blk.cells T_parallaxref03_In [V.sl .no T_api_Token m0_0, V.int .i64 m0_1, V.int .i64 m0_2, V.int .i64 m0_3] false] none).bind (fun r7 => Blk.asCells (List.getD (Res.bl r7) 0 (Blk.cells T_n0 [] true)) T_parallaxref03_In 4 (fun rd8 => V.asSl (rd8 0) T_api_Token (fun es9 => V.asInt (rd8 1) .i64 (fun n10 => V.asInt (rd8 2) .i64 (fun n11 => V.asInt (rd8 3) .i64 (fun n12 => Res.onRet r7 (fun v13 => V.asBool v13 (fun b14 => bif b14 then (some ⟨Out.ret (V.bool true), [Blk.cells T_parallaxref03_In [V.sl .no T_api_Token es9, V.int .i64 (IntKind.wrap .i64 (n10 + (1 : Int))), V.int .i64 n11, V.int .i64 n12] false], none⟩) else (some ⟨Out.ret (V.bool false), [Blk.cells T_parallaxref03_In [V.sl .no T_api_Token es9, V.int .i64 n10, V.int .i64 n11, V.int .i64 n12] false], none⟩))))))))) := (den_eq ..).trans (by kernel_rfl)
end ref03_In_got
namespace ref03_In_want
theorem eq (m0_0 : List (List V)) (m0_1 m0_2 m0_3 : Int) (a1 : ByteArray) : den Sp id [V.ref 0 0, V.str a1] [Blk.cells T_parallaxref03_In [V.sl .no T_api_Token m0_0, V.int .i64 m0_1, V.int .i64 m0_2, V.int .i64 m0_3] false] none =
  (den Sp ref03_In_got.id [V.ref 0 0, V.str a1] [Blk.cells T_parallaxref03_In [V.sl .no T_api_Token m0_0, V.int .i64 m0_1, V.int .i64 m0_2, V.int .i64 m0_3] false] none).bind (fun r6 => Blk.asCells (List.getD (Res.bl r6) 0 (Blk.cells T_n0 [] true)) T_parallaxref03_In 4 (fun rd7 => V.asSl (rd7 0) T_api_Token (fun es8 => V.asInt (rd7 1) .i64 (fun n9 => V.asInt (rd7 2) .i64 (fun n10 => V.asInt (rd7 3) .i64 (fun n11 => Res.onRet r6 (fun v12 => V.asBool v12 (fun b13 => bif (!b13) then (den Sp ref03_In_fail.id [V.ref 0 0, V.int .i64 (30 : Int)] [Blk.cells T_parallaxref03_In [V.sl .no T_api_Token es8, V.int .i64 n9, V.int .i64 n10, V.int .i64 n11] false] none).bind (fun r15 => Blk.asCells (List.getD (Res.bl r15) 0 (Blk.cells T_n0 [] true)) T_parallaxref03_In 4 (fun rd16 => V.asSl (rd16 0) T_api_Token (fun es17 => V.asInt (rd16 1) .i64 (fun n18 => V.asInt (rd16 2) .i64 (fun n19 => V.asInt (rd16 3) .i64 (fun n20 => Res.onRet r15 (fun v21 => V.asTup v21 0 (fun rd22 => some ⟨Out.ret (V.tup []), [Blk.cells T_parallaxref03_In [V.sl .no T_api_Token es17, V.int .i64 n18, V.int .i64 n19, V.int .i64 n20] false], none⟩)))))))) else (some ⟨Out.ret (V.tup []), [Blk.cells T_parallaxref03_In [V.sl .no T_api_Token es8, V.int .i64 n9, V.int .i64 n10, V.int .i64 n11] false], none⟩))))))))) := (den_eq ..).trans (by kernel_rfl)
end ref03_In_want
namespace ref03_In_word
theorem eq (m0_0 : List (List V)) (m0_1 m0_2 m0_3 : Int) : den Sp id [V.ref 0 0] [Blk.cells T_parallaxref03_In [V.sl .no T_api_Token m0_0, V.int .i64 m0_1, V.int .i64 m0_2, V.int .i64 m0_3] false] none =
  (den Sp ref03_In_kind.id [V.ref 0 0, V.int .i64 (1 : Int)] [Blk.cells T_parallaxref03_In [V.sl .no T_api_Token m0_0, V.int .i64 m0_1, V.int .i64 m0_2, V.int .i64 m0_3] false] none).bind (fun r6 => Blk.asCells (List.getD (Res.bl r6) 0 (Blk.cells T_n0 [] true)) T_parallaxref03_In 4 (fun rd7 => V.asSl (rd7 0) T_api_Token (fun es8 => V.asInt (rd7 1) .i64 (fun n9 => V.asInt (rd7 2) .i64 (fun n10 => V.asInt (rd7 3) .i64 (fun n11 => Res.onRet r6 (fun v12 => V.asBool v12 (fun b13 => bif (!b13) then (den Sp ref03_In_fail.id [V.ref 0 0, V.int .i64 (30 : Int)] [Blk.cells T_parallaxref03_In [V.sl .no T_api_Token es8, V.int .i64 n9, V.int .i64 n10, V.int .i64 n11] false] none).bind (fun r15 => Blk.asCells (List.getD (Res.bl r15) 0 (Blk.cells T_n0 [] true)) T_parallaxref03_In 4 (fun rd16 => V.asSl (rd16 0) T_api_Token (fun es17 => V.asInt (rd16 1) .i64 (fun n18 => V.asInt (rd16 2) .i64 (fun n19 => V.asInt (rd16 3) .i64 (fun n20 => Res.onRet r15 (fun v21 => V.asTup v21 0 (fun rd22 => some ⟨Out.ret (V.str (ByteArray.mk #[])), [Blk.cells T_parallaxref03_In [V.sl .no T_api_Token es17, V.int .i64 n18, V.int .i64 n19, V.int .i64 n20] false], none⟩)))))))) else (if (((0 : Int) <= (IntKind.wrap .i64 ((IntKind.wrap .i64 (n9 + (1 : Int))) - (1 : Int)))) ∧ ((IntKind.wrap .i64 ((IntKind.wrap .i64 (n9 + (1 : Int))) - (1 : Int))) < (es8.length : Int))) then (V.asStr (List.getD (List.getD es8 (Int.toNat (IntKind.wrap .i64 ((IntKind.wrap .i64 (n9 + (1 : Int))) - (1 : Int)))) []) 1 V.undef) (fun s16 => some ⟨Out.ret (V.str s16), [Blk.cells T_parallaxref03_In [V.sl .no T_api_Token es8, V.int .i64 (IntKind.wrap .i64 (n9 + (1 : Int))), V.int .i64 n10, V.int .i64 n11] false], none⟩)) else none))))))))) := (den_eq ..).trans (by kernel_rfl)
end ref03_In_word
namespace ref03_In_part
theorem eq (m0_0 : List (List V)) (m0_1 m0_2 m0_3 : Int) (a1 : Bool) (a2 : Int) : den Sp id [V.ref 0 0, V.bool a1, V.int .i64 a2] [Blk.cells T_parallaxref03_In [V.sl .no T_api_Token m0_0, V.int .i64 m0_1, V.int .i64 m0_2, V.int .i64 m0_3] false] none =
  (bif (!a1) then (den Sp ref03_In_fail.id [V.ref 0 0, V.int .i64 (30 : Int)] [Blk.cells T_parallaxref03_In [V.sl .no T_api_Token m0_0, V.int .i64 m0_1, V.int .i64 m0_2, V.int .i64 m0_3] false] none).bind (fun r8 => Blk.asCells (List.getD (Res.bl r8) 0 (Blk.cells T_n0 [] true)) T_parallaxref03_In 4 (fun rd9 => V.asSl (rd9 0) T_api_Token (fun es10 => V.asInt (rd9 1) .i64 (fun n11 => V.asInt (rd9 2) .i64 (fun n12 => V.asInt (rd9 3) .i64 (fun n13 => Res.onRet r8 (fun v14 => V.asTup v14 0 (fun rd15 => bif (decide (a2 > (60 : Int))) then (den Sp ref03_In_fail.id [V.ref 0 0, V.int .i64 (31 : Int)] [Blk.cells T_parallaxref03_In [V.sl .no T_api_Token es10, V.int .i64 n11, V.int .i64 n12, V.int .i64 n13] false] none).bind (fun r18 => Blk.asCells (List.getD (Res.bl r18) 0 (Blk.cells T_n0 [] true)) T_parallaxref03_In 4 (fun rd19 => V.asSl (rd19 0) T_api_Token (fun es20 => V.asInt (rd19 1) .i64 (fun n21 => V.asInt (rd19 2) .i64 (fun n22 => V.asInt (rd19 3) .i64 (fun n23 => Res.onRet r18 (fun v24 => V.asTup v24 0 (fun rd25 => some ⟨Out.ret (V.tup []), [Blk.cells T_parallaxref03_In [V.sl .no T_api_Token es20, V.int .i64 n21, V.int .i64 n22, V.int .i64 n23] false], none⟩)))))))) else (some ⟨Out.ret (V.tup []), [Blk.cells T_parallaxref03_In [V.sl .no T_api_Token es10, V.int .i64 n11, V.int .i64 n12, V.int .i64 n13] false], none⟩))))))))) else (bif (decide (a2 > (60 : Int))) then (den Sp ref03_In_fail.id [V.ref 0 0, V.int .i64 (31 : Int)] [Blk.cells T_parallaxref03_In [V.sl .no T_api_Token m0_0, V.int .i64 m0_1, V.int .i64 m0_2, V.int .i64 m0_3] false] none).bind (fun r9 => Blk.asCells (List.getD (Res.bl r9) 0 (Blk.cells T_n0 [] true)) T_parallaxref03_In 4 (fun rd10 => V.asSl (rd10 0) T_api_Token (fun es11 => V.asInt (rd10 1) .i64 (fun n12 => V.asInt (rd10 2) .i64 (fun n13 => V.asInt (rd10 3) .i64 (fun n14 => Res.onRet r9 (fun v15 => V.asTup v15 0 (fun rd16 => some ⟨Out.ret (V.tup []), [Blk.cells T_parallaxref03_In [V.sl .no T_api_Token es11, V.int .i64 n12, V.int .i64 n13, V.int .i64 n14] false], none⟩)))))))) else (some ⟨Out.ret (V.tup []), [Blk.cells T_parallaxref03_In [V.sl .no T_api_Token m0_0, V.int .i64 m0_1, V.int .i64 m0_2, V.int .i64 m0_3] false], none⟩))) := (den_eq ..).trans (by kernel_rfl)
end ref03_In_part
namespace ref03_In_opens
theorem eq (m0_0 : List (List V)) (m0_1 m0_2 m0_3 : Int) : den Sp id [V.ref 0 0] [Blk.cells T_parallaxref03_In [V.sl .no T_api_Token m0_0, V.int .i64 m0_1, V.int .i64 m0_2, V.int .i64 m0_3] false] none =
  (den Sp ref03_In_kind.id [V.ref 0 0, V.int .i64 (1 : Int)] [Blk.cells T_parallaxref03_In [V.sl .no T_api_Token m0_0, V.int .i64 m0_1, V.int .i64 m0_2, V.int .i64 m0_3] false] none).bind (fun r6 => Blk.asCells (List.getD (Res.bl r6) 0 (Blk.cells T_n0 [] true)) T_parallaxref03_In 4 (fun rd7 => V.asSl (rd7 0) T_api_Token (fun es8 => V.asInt (rd7 1) .i64 (fun n9 => V.asInt (rd7 2) .i64 (fun n10 => V.asInt (rd7 3) .i64 (fun n11 => Res.onRet r6 (fun v12 => V.asBool v12 (fun b13 => bif b13 then (some ⟨Out.ret (V.bool true), [Blk.cells T_parallaxref03_In [V.sl .no T_api_Token es8, V.int .i64 n9, V.int .i64 n10, V.int .i64 n11] false], none⟩) else (den Sp ref03_In_kind.id [V.ref 0 0, V.int .i64 (2 : Int)] [Blk.cells T_parallaxref03_In [V.sl .no T_api_Token es8, V.int .i64 n9, V.int .i64 n10, V.int .i64 n11] false] none).bind (fun r14 => Blk.asCells (List.getD (Res.bl r14) 0 (Blk.cells T_n0 [] true)) T_parallaxref03_In 4 (fun rd15 => V.asSl (rd15 0) T_api_Token (fun es16 => V.asInt (rd15 1) .i64 (fun n17 => V.asInt (rd15 2) .i64 (fun n18 => V.asInt (rd15 3) .i64 (fun n19 => Res.onRet r14 (fun v20 => V.asBool v20 (fun b21 => bif b21 then (some ⟨Out.ret (V.bool true), [Blk.cells T_parallaxref03_In [V.sl .no T_api_Token es16, V.int .i64 n17, V.int .i64 n18, V.int .i64 n19] false], none⟩) else (den Sp ref03_In_is.id [V.ref 0 0, V.str (ByteArray.mk #[116, 114, 117, 101])] [Blk.cells T_parallaxref03_In [V.sl .no T_api_Token es16, V.int .i64 n17, V.int .i64 n18, V.int .i64 n19] false] none).bind (fun r22 => Blk.asCells (List.getD (Res.bl r22) 0 (Blk.cells T_n0 [] true)) T_parallaxref03_In 4 (fun rd23 => V.asSl (rd23 0) T_api_Token (fun es24 => V.asInt (rd23 1) .i64 (fun n25 => V.asInt (rd23 2) .i64 (fun n26 => V.asInt (rd23 3) .i64 (fun n27 => Res.onRet r22 (fun v28 => V.asBool v28 (fun b29 => bif b29 then (some ⟨Out.ret (V.bool true), [Blk.cells T_parallaxref03_In [V.sl .no T_api_Token es24, V.int .i64 n25, V.int .i64 n26, V.int .i64 n27] false], none⟩) else (den Sp ref03_In_is.id [V.ref 0 0, V.str (ByteArray.mk #[102, 97, 108, 115, 101])] [Blk.cells T_parallaxref03_In [V.sl .no T_api_Token es24, V.int .i64 n25, V.int .i64 n26, V.int .i64 n27] false] none).bind (fun r30 => Blk.asCells (List.getD (Res.bl r30) 0 (Blk.cells T_n0 [] true)) T_parallaxref03_In 4 (fun rd31 => V.asSl (rd31 0) T_api_Token (fun es32 => V.asInt (rd31 1) .i64 (fun n33 => V.asInt (rd31 2) .i64 (fun n34 => V.asInt (rd31 3) .i64 (fun n35 => Res.onRet r30 (fun v36 => V.asBool v36 (fun b37 => bif b37 then (some ⟨Out.ret (V.bool true), [Blk.cells T_parallaxref03_In [V.sl .no T_api_Token es32, V.int .i64 n33, V.int .i64 n34, V.int .i64 n35] false], none⟩) else (den Sp ref03_In_is.id [V.ref 0 0, V.str (ByteArray.mk #[40])] [Blk.cells T_parallaxref03_In [V.sl .no T_api_Token es32, V.int .i64 n33, V.int .i64 n34, V.int .i64 n35] false] none).bind (fun r38 => Blk.asCells (List.getD (Res.bl r38) 0 (Blk.cells T_n0 [] true)) T_parallaxref03_In 4 (fun rd39 => V.asSl (rd39 0) T_api_Token (fun es40 => V.asInt (rd39 1) .i64 (fun n41 => V.asInt (rd39 2) .i64 (fun n42 => V.asInt (rd39 3) .i64 (fun n43 => Res.onRet r38 (fun v44 => V.asBool v44 (fun b45 => bif b45 then (some ⟨Out.ret (V.bool true), [Blk.cells T_parallaxref03_In [V.sl .no T_api_Token es40, V.int .i64 n41, V.int .i64 n42, V.int .i64 n43] false], none⟩) else (den Sp ref03_In_is.id [V.ref 0 0, V.str (ByteArray.mk #[45])] [Blk.cells T_parallaxref03_In [V.sl .no T_api_Token es40, V.int .i64 n41, V.int .i64 n42, V.int .i64 n43] false] none).bind (fun r46 => Blk.asCells (List.getD (Res.bl r46) 0 (Blk.cells T_n0 [] true)) T_parallaxref03_In 4 (fun rd47 => V.asSl (rd47 0) T_api_Token (fun es48 => V.asInt (rd47 1) .i64 (fun n49 => V.asInt (rd47 2) .i64 (fun n50 => V.asInt (rd47 3) .i64 (fun n51 => Res.onRet r46 (fun v52 => V.asBool v52 (fun b53 => bif b53 then (some ⟨Out.ret (V.bool true), [Blk.cells T_parallaxref03_In [V.sl .no T_api_Token es48, V.int .i64 n49, V.int .i64 n50, V.int .i64 n51] false], none⟩) else (den Sp ref03_In_is.id [V.ref 0 0, V.str (ByteArray.mk #[33])] [Blk.cells T_parallaxref03_In [V.sl .no T_api_Token es48, V.int .i64 n49, V.int .i64 n50, V.int .i64 n51] false] none).bind (fun r54 => Blk.asCells (List.getD (Res.bl r54) 0 (Blk.cells T_n0 [] true)) T_parallaxref03_In 4 (fun rd55 => V.asSl (rd55 0) T_api_Token (fun es56 => V.asInt (rd55 1) .i64 (fun n57 => V.asInt (rd55 2) .i64 (fun n58 => V.asInt (rd55 3) .i64 (fun n59 => Res.onRet r54 (fun v60 => V.asBool v60 (fun b61 => some ⟨Out.ret (V.bool b61), [Blk.cells T_parallaxref03_In [V.sl .no T_api_Token es56, V.int .i64 n57, V.int .i64 n58, V.int .i64 n59] false], none⟩)))))))))))))))))))))))))))))))))))))))))))))))))))))))) := (den_eq ..).trans (by kernel_rfl)
end ref03_In_opens
end Go.Proofs.YtmhnmelaodhemaaGreatDoor
namespace Go.Proofs.YtmhnmelaodhemaaGreatDoor
open Go Go.Proofs.Ab Go.Proofs.Px
def inB (l : List Tk) (k : Nat) (e a : Int) : Blk := .cells T_parallaxref03_In [.sl .no T_api_Token (l.map Tk.v), .int .i64 k, .int .i64 e, .int .i64 a] false
abbrev E0 : Ex := .mk 0 [] 0 []
section
variable {l : List Tk} (hn : l.length <= 100000)
include hn
theorem fail_3 {k : Nat} (hk : k < l.length) (e e0 a : Int) : den Sp ref03_In_fail.id [.ref 0 0, .int .i64 e] [inB l k e0 a] none = some ⟨.ret (.tup []), [if e0 = 0 then inB l k e (tk l k).at_ else inB l k e0 a], none⟩ := by
 unfold inB
 rw [ref03_In_fail.eq]
 simp only [if_pos (row_in hk), Int.toNat_natCast, tok_g hk, tkv_0, tkv_1, tkv_2, tkv_3, asInt_int, asStr_str]
 by_cases c : e0 = 0 <;> simp [c]
theorem kind_3 {k : Nat} (hk : k < l.length) (n e0 a : Int) : den Sp ref03_In_kind.id [.ref 0 0, .int .i64 n] [inB l k e0 a] none = some ⟨.ret (.bool (decide (e0 = 0) && decide ((tk l k).kind = n))), [inB l k e0 a], none⟩ := by
 unfold inB
 rw [ref03_In_kind.eq]
 simp only [if_pos (row_in hk), Int.toNat_natCast, tok_g hk, tkv_0, tkv_1, tkv_2, tkv_3, asInt_int, asStr_str]
 by_cases c : e0 = 0 <;> by_cases c2 : (tk l k).kind = n <;> simp [c, c2]
theorem is_3 {k : Nat} (hk : k < l.length) (s : List UInt8) (e0 a : Int) : den Sp ref03_In_is.id [.ref 0 0, .str (B s)] [inB l k e0 a] none = some ⟨.ret (.bool (decide (e0 = 0) && isT (tk l k) s)), [inB l k e0 a], none⟩ := by
 unfold inB isT
 rw [ref03_In_is.eq]
 simp only [if_pos (row_in hk), Int.toNat_natCast, tok_g hk, tkv_0, tkv_1, tkv_2, tkv_3, asInt_int, asStr_str]
 by_cases c : e0 = 0 <;> by_cases c1 : (tk l k).text = s <;> by_cases c2 : (tk l k).kind = 3 <;> by_cases c3 : (tk l k).kind = 4 <;> simp [c, c1, c2, c3]
theorem got_3 {k : Nat} (hk : k < l.length) (s : List UInt8) (e0 a : Int) : den Sp ref03_In_got.id [.ref 0 0, .str (B s)] [inB l k e0 a] none = some ⟨.ret (.bool (decide (e0 = 0) && isT (tk l k) s)), [if e0 = 0 ∧ isT (tk l k) s = true then inB l (k + 1) e0 a else inB l k e0 a], none⟩ := by
 have h := is_3 hn hk s e0 a
 have w := wr1 (show k < 1099511627776 by omega)
 unfold inB at *
 rw [ref03_In_got.eq]
 by_cases c : e0 = 0
 ·cases c2 : isT (tk l k) s <;> rw [c2] at h <;> simp [h, c, w] <;> simp [c] at h <;> simp [h, w]
 ·simp [h, c] 
theorem want_3 {k : Nat} (hk : k < l.length) (s : List UInt8) (e0 a : Int) : den Sp ref03_In_want.id [.ref 0 0, .str (B s)] [inB l k e0 a] none = some ⟨.ret (.tup []), [if e0 = 0 then (if isT (tk l k) s = true then inB l (k + 1) e0 a else inB l k 30 (tk l k).at_) else inB l k e0 a], none⟩ := by
 have h := got_3 hn hk s e0 a
 have h2 := fail_3 hn hk 30 e0 a
 by_cases c : e0 = 0
 ·subst c
  cases c2 : isT (tk l k) s <;> simp only [c2, decide_true, Bool.true_and, Bool.and_false, and_self, and_false, Bool.false_eq_true, if_true, if_false] at h h2 ⊢ <;> unfold inB at * <;> rw [ref03_In_want.eq] <;> simp [h, h2]
 ·simp only [c, decide_false, Bool.false_and, false_and, if_false] at h h2 ⊢
  unfold inB at *
  rw [ref03_In_want.eq]; simp [h, h2]
theorem word_3 {k : Nat} (hk : k < l.length) (hl : Ended l) : den Sp ref03_In_word.id [.ref 0 0] [inB l k 0 0] none = if (tk l k).kind = 1 then some ⟨.ret (.str (B (tk l k).text)), [inB l (k + 1) 0 0], none⟩ else some ⟨.ret (.str (B [])), [inB l k 30 (tk l k).at_], none⟩ := by
 have h := kind_3 hn hk 1 0 0
 have h2 := fail_3 hn hk 30 0 0
 have w := wr1 (show k < 1099511627776 by omega)
 have w2 : IntKind.i64.wrap (((k + 1 : Nat) : Int) - 1) = (k : Int) := by rw [wrap_in (by omega) (by omega)]; omega
 simp only [Int.natCast_add, Int.natCast_one] at w w2
 by_cases c : (tk l k).kind = 1
 ·have hk1 := hl.next hk (by omega)
  simp only [c, decide_true, Bool.true_and, if_true] at h h2 ⊢
  unfold inB at *
  rw [ref03_In_word.eq]
  have r := row_in hk
  simp only [h, Option.bind_some, bl_mk, List.getD_cons_zero, List.getD_cons_succ, asCells_4, asSl_sl, asInt_int, onRet_ret, asBool_bool, Bool.not_true, cond_false, w, w2, if_pos r, Int.toNat_natCast, tok_g hk, tkv_1, asStr_str]
  simp [w2, w, if_pos r, tok_g hk, tkv_1]
 ·simp only [c, decide_true, decide_false, Bool.and_false, Bool.true_and, if_true, if_false] at h h2 ⊢
  unfold inB at *
  rw [ref03_In_word.eq]; simp [h, h2]
theorem opens_3 {k : Nat} (hk : k < l.length) (e a : Int) : den Sp ref03_In_opens.id [.ref 0 0] [inB l k e a] none = some ⟨.ret (.bool (decide (e = 0) && opensT (tk l k))), [inB l k e a], none⟩ := by
 have h1 := kind_3 hn hk 1 e a
 have h2 := kind_3 hn hk 2 e a
 have h3 := fun s => is_3 hn hk s e a
 have g : (decide (e = 0) && opensT (tk l k)) = ((decide (e = 0) && decide ((tk l k).kind = 1)) || ((decide (e = 0) && decide ((tk l k).kind = 2)) || ((decide (e = 0) && isT (tk l k) [116, 114, 117, 101]) || ((decide (e = 0) && isT (tk l k) [102, 97, 108, 115, 101]) || ((decide (e = 0) && isT (tk l k) [40]) || ((decide (e = 0) && isT (tk l k) [45]) || (decide (e = 0) && isT (tk l k) [33]))))))) := by
  unfold opensT
  cases decide (e = 0) <;> simp [Bool.or_assoc]
 rw [g]
 unfold inB at *
 rw [ref03_In_opens.eq]
 simp only [mk_B, h1, h2, h3, Option.bind_some, bl_mk, List.getD_cons_zero, List.getD_cons_succ, asCells_4, asSl_sl, asInt_int, onRet_ret, asBool_bool]
 generalize (decide (e = 0) && decide ((tk l k).kind = 1)) = b1
 generalize (decide (e = 0) && decide ((tk l k).kind = 2)) = b2
 generalize (decide (e = 0) && isT (tk l k) [116, 114, 117, 101]) = b3
 generalize (decide (e = 0) && isT (tk l k) [102, 97, 108, 115, 101]) = b4
 generalize (decide (e = 0) && isT (tk l k) [40]) = b5
 generalize (decide (e = 0) && isT (tk l k) [45]) = b6
 generalize (decide (e = 0) && isT (tk l k) [33]) = b7
 cases b1
 ·cases b2
  ·cases b3
   ·cases b4
    ·cases b5
     ·cases b6
      ·cases b7 <;> rfl
      ·rfl
     ·rfl
    ·rfl
   ·rfl
  ·rfl
 ·rfl
theorem part_3 {k : Nat} (hk : k < l.length) (b : Bool) (d e a : Int) : den Sp ref03_In_part.id [.ref 0 0, .bool b, .int .i64 d] [inB l k e a] none =
  some ⟨.ret (.tup []), [if e = 0 then (if b = false then inB l k 30 (tk l k).at_ else if 60 < d then inB l k 31 (tk l k).at_ else inB l k e a) else inB l k e a], none⟩ := by
 have h1 := fail_3 hn hk 30 e a
 have h2 := fail_3 hn hk 31 e a
 have h3 := fail_3 hn hk 31 30 (tk l k).at_
 by_cases c : e = 0
 ·subst c
  simp only [if_true, if_false, show ¬ (30 : Int) = 0 by decide] at h1 h2 h3 ⊢
  unfold inB at *
  rw [ref03_In_part.eq]
  cases b <;> by_cases c2 : 60 < d <;> simp [h1, h2, h3, c2]
 ·simp only [c, if_false] at h1 h2 ⊢
  unfold inB at *
  rw [ref03_In_part.eq]
  cases b <;> by_cases c2 : 60 < d <;> simp [h1, h2, c2]
end
end Go.Proofs.YtmhnmelaodhemaaGreatDoor
namespace Go.Proofs.YtmhnmelaodhemaaGreatDoor
open Go Go.Proofs.Ab
namespace ref03_Tight
noncomputable abbrev e (p : List Nat) := ev Sp (den Sp) id Tryz.f111.ntmps (cAt (bodyOf Tryz.f111) p)
noncomputable abbrev cn (n0 : List Nat) := canon Sp id n0
noncomputable abbrev K : K := kFin Sp (den Sp) (Sp.oo id) Tryz.f111 0
noncomputable def L1_1_0_1_0 (s0 : ByteArray) : Option Res := LP (e [1, 1, 0, 1, 0, 0]) (cn []) (kBlk 0 (kSeq (e [1, 1, 1]) (K))) ([(0, (V.str s0)), (3, (V.sl .no T_L_string [[V.sl .no T_string [[V.str (ByteArray.mk #[124, 124])]]], [V.sl .no T_string [[V.str (ByteArray.mk #[38, 38])]]], [V.sl .no T_string [[V.str (ByteArray.mk #[61, 61])], [V.str (ByteArray.mk #[33, 61])], [V.str (ByteArray.mk #[60])], [V.str (ByteArray.mk #[60, 61])]]], [V.sl .no T_string [[V.str (ByteArray.mk #[43])], [V.str (ByteArray.mk #[45])]]], [V.sl .no T_string [[V.str (ByteArray.mk #[42])], [V.str (ByteArray.mk #[47])], [V.str (ByteArray.mk #[37])]]]])), (4, (V.int .i64 (0 : Int))), (5, V.undef)], ⟨[], [], [], [], none⟩)
noncomputable def L1_1_0_1_0_0_1_0_0_1_0 (s0 : ByteArray) (i1 i2 : Int) : Option Res := LP (e [1, 1, 0, 1, 0, 0, 1, 0, 0, 1, 0, 0]) (cn []) (kBlk 2 (kBlk 1 (kSeq (e [1, 1, 0, 1, 0, 0, 1, 1]) (kLp (e [1, 1, 0, 1, 0, 0]) (cn []) (kBlk 0 (kSeq (e [1, 1, 1]) (K))))))) ([(0, (V.str s0)), (3, (V.sl .no T_L_string [[V.sl .no T_string [[V.str (ByteArray.mk #[124, 124])]]], [V.sl .no T_string [[V.str (ByteArray.mk #[38, 38])]]], [V.sl .no T_string [[V.str (ByteArray.mk #[61, 61])], [V.str (ByteArray.mk #[33, 61])], [V.str (ByteArray.mk #[60])], [V.str (ByteArray.mk #[60, 61])]]], [V.sl .no T_string [[V.str (ByteArray.mk #[43])], [V.str (ByteArray.mk #[45])]]], [V.sl .no T_string [[V.str (ByteArray.mk #[42])], [V.str (ByteArray.mk #[47])], [V.str (ByteArray.mk #[37])]]]])), (4, (V.int .i64 i1)), (5, (V.int .i64 i2))], ⟨[], [], [], [], none⟩)
noncomputable def L1_1_0_1_0v1 (s0 : ByteArray) (i1 i2 : Int) : Option Res := LP (e [1, 1, 0, 1, 0, 0]) (cn []) (kBlk 0 (kSeq (e [1, 1, 1]) (K))) ([(0, (V.str s0)), (3, (V.sl .no T_L_string [[V.sl .no T_string [[V.str (ByteArray.mk #[124, 124])]]], [V.sl .no T_string [[V.str (ByteArray.mk #[38, 38])]]], [V.sl .no T_string [[V.str (ByteArray.mk #[61, 61])], [V.str (ByteArray.mk #[33, 61])], [V.str (ByteArray.mk #[60])], [V.str (ByteArray.mk #[60, 61])]]], [V.sl .no T_string [[V.str (ByteArray.mk #[43])], [V.str (ByteArray.mk #[45])]]], [V.sl .no T_string [[V.str (ByteArray.mk #[42])], [V.str (ByteArray.mk #[47])], [V.str (ByteArray.mk #[37])]]]])), (4, (V.int .i64 i1)), (5, (V.int .i64 i2))], ⟨[], [], [], [], none⟩)
theorem L1_1_0_1_0_eq (s0 : ByteArray) : L1_1_0_1_0 s0 =
  (L1_1_0_1_0_0_1_0_0_1_0 s0 (0 : Int) (0 : Int)) := (LP_eq ..).trans (by kernel_rfl)
theorem L1_1_0_1_0_0_1_0_0_1_0_eq (s0 : ByteArray) (i1 i2 : Int) : L1_1_0_1_0_0_1_0_0_1_0 s0 i1 i2 =
  (if (((0 : Int) <= i1) ∧ (i1 < ((5 : Nat) : Int))) then (V.asSl (List.getD (List.getD [[V.sl .no T_string [[V.str (ByteArray.mk #[124, 124])]]], [V.sl .no T_string [[V.str (ByteArray.mk #[38, 38])]]], [V.sl .no T_string [[V.str (ByteArray.mk #[61, 61])], [V.str (ByteArray.mk #[33, 61])], [V.str (ByteArray.mk #[60])], [V.str (ByteArray.mk #[60, 61])]]], [V.sl .no T_string [[V.str (ByteArray.mk #[43])], [V.str (ByteArray.mk #[45])]]], [V.sl .no T_string [[V.str (ByteArray.mk #[42])], [V.str (ByteArray.mk #[47])], [V.str (ByteArray.mk #[37])]]]] (Int.toNat i1) []) 0 V.undef) T_string (fun es11 => bif (decide (i2 < (es11.length : Int))) then (if (((0 : Int) <= i1) ∧ (i1 < ((5 : Nat) : Int))) then (V.asSl (List.getD (List.getD [[V.sl .no T_string [[V.str (ByteArray.mk #[124, 124])]]], [V.sl .no T_string [[V.str (ByteArray.mk #[38, 38])]]], [V.sl .no T_string [[V.str (ByteArray.mk #[61, 61])], [V.str (ByteArray.mk #[33, 61])], [V.str (ByteArray.mk #[60])], [V.str (ByteArray.mk #[60, 61])]]], [V.sl .no T_string [[V.str (ByteArray.mk #[43])], [V.str (ByteArray.mk #[45])]]], [V.sl .no T_string [[V.str (ByteArray.mk #[42])], [V.str (ByteArray.mk #[47])], [V.str (ByteArray.mk #[37])]]]] (Int.toNat i1) []) 0 V.undef) T_string (fun es13 => if (((0 : Int) <= i2) ∧ (i2 < (es13.length : Int))) then (V.asStr (List.getD (List.getD es13 (Int.toNat i2) []) 0 V.undef) (fun s14 => bif (decide (s14 = s0)) then (some ⟨Out.ret (V.int .i64 (IntKind.wrap .i64 (i1 + (1 : Int)))), [], none⟩) else (L1_1_0_1_0_0_1_0_0_1_0 s0 i1 (IntKind.wrap .i64 (i2 + (1 : Int)))))) else none)) else none) else (L1_1_0_1_0v1 s0 (IntKind.wrap .i64 (i1 + (1 : Int))) i2))) else none) := (LP_eq ..).trans (by kernel_rfl)
theorem L1_1_0_1_0v1_eq (s0 : ByteArray) (i1 i2 : Int) : L1_1_0_1_0v1 s0 i1 i2 =
  (bif (decide (i1 < ((5 : Nat) : Int))) then (L1_1_0_1_0_0_1_0_0_1_0 s0 i1 (0 : Int)) else (some ⟨Out.ret (V.int .i64 (0 : Int)), [], none⟩)) := (LP_eq ..).trans (by kernel_rfl)
theorem eq (a0 : ByteArray) : den Sp id [V.str a0] [] none =
  (L1_1_0_1_0 a0) := (den_eq ..).trans (by kernel_rfl)
end ref03_Tight
end Go.Proofs.YtmhnmelaodhemaaGreatDoor
namespace Go.Proofs.YtmhnmelaodhemaaGreatDoor
open Go Go.Proofs.Ab Go.Proofs.Px
def tightN (s : List UInt8) : Int := if s = [124, 124] then 1 else if s = [38, 38] then 2 else if s = [61, 61] ∨ s = [33, 61] ∨ s = [60] ∨ s = [60, 61] then 3 else if s = [43] ∨ s = [45] then 4 else if s = [42] ∨ s = [47] ∨ s = [37] then 5 else 0
def levels : List (List (List UInt8)) := [[[124, 124]], [[38, 38]], [[61, 61], [33, 61], [60], [60, 61]], [[43], [45]], [[42], [47], [37]]]
def tightFrom (s : List UInt8) : List (List (List UInt8)) -> Nat -> Int
 | [], _ => 0
 | r :: l, i => if s ∈ r then (i : Int) + 1 else tightFrom s l (i + 1)
theorem tightFrom_is (s : List UInt8) : tightFrom s levels 0 = tightN s := by
 unfold tightN levels
 simp only [tightFrom, List.mem_cons, List.not_mem_nil, or_false]
 rfl
theorem ref03_Tight_is (s : List UInt8) : den Sp ref03_Tight.id [.str (B s)] [] none = some ⟨.ret (.int .i64 (tightN s)), [], none⟩ := by
 rw [ref03_Tight.eq, ref03_Tight.L1_1_0_1_0_eq, <- tightFrom_is]
 have hlv : levels.length = 5 := rfl
 have row : ∀ (i : Nat) (hi : i < levels.length) (j : Nat), j <= levels[i].length -> ref03_Tight.L1_1_0_1_0_0_1_0_0_1_0 (B s) (i : Int) (j : Int) = if s ∈ levels[i].drop j then some ⟨.ret (.int .i64 ((i : Int) + 1)), [], none⟩ else ref03_Tight.L1_1_0_1_0v1 (B s) ((i + 1 : Nat) : Int) (levels[i].length : Int) := by
  intro i hi
  have hlen : levels[i].length < 10 := (by decide : ∀ r ∈ levels, r.length < 10) _ (List.getElem_mem hi)
  have tb : ∀ k : List (List V) -> Option Res, V.asSl (List.getD (List.getD (levels.map fun r => [V.sl Tok.no T_string (sv r)]) i []) 0 V.undef) T_string k = k (sv levels[i]) := fun k => by
   rw [map_at _ _ _ hi]
   exact asSl_sl ..
  refine down ?_ fun j hj ih => ?_
  ·rw [ref03_Tight.L1_1_0_1_0_0_1_0_0_1_0_eq, if_pos (in_row (show i < 5 from hi)), Int.toNat_natCast]
   refine (tb _).trans ?_
   rw [sv_len, decide_eq_false (Int.lt_irrefl _), cond_false, List.drop_length, if_neg List.not_mem_nil, wrap_nat (by omega)]
  ·rw [ref03_Tight.L1_1_0_1_0_0_1_0_0_1_0_eq, if_pos (in_row (show i < 5 from hi)), Int.toNat_natCast]
   refine (tb _).trans ?_
   rw [sv_len, decide_eq_true (show (j : Int) < (levels[i].length : Int) by omega), cond_true, if_pos (in_row (show i < 5 from hi))]
   refine (tb _).trans ?_
   have hm : (s ∈ levels[i].drop j) = (s = levels[i][j] ∨ s ∈ levels[i].drop (j + 1)) := by rw [List.drop_eq_getElem_cons hj, List.mem_cons]
   rw [sv_len, if_pos (in_row hj), Int.toNat_natCast, sv_at _ _ hj, asStr_str, wrap_nat (i := i) (by omega), wrap_nat (i := j) (by omega), ih, B_dec]
   by_cases h : s = levels[i][j]
   ·rw [if_pos (show s ∈ levels[i].drop j by rw [hm]; exact .inl h), decide_eq_true (show levels[i][j] = s from h.symm)]; rfl
   ·rw [decide_eq_false (fun h2 => h h2.symm), cond_false]
    by_cases h3 : s ∈ levels[i].drop (j + 1)
    ·rw [if_pos h3, if_pos (show s ∈ levels[i].drop j by rw [hm]; exact .inr h3)]
    ·rw [if_neg h3, if_neg (show ¬ s ∈ levels[i].drop j by rw [hm]; exact fun h4 => h4.elim h h3)]
 have key : ∀ i : Nat, i <= 5 -> ∀ j : Int, ref03_Tight.L1_1_0_1_0v1 (B s) (i : Int) j = some ⟨.ret (.int .i64 (tightFrom s (levels.drop i) i)), [], none⟩ := by
  refine down (fun j => ?_) fun i hi ih j => ?_
  ·rw [ref03_Tight.L1_1_0_1_0v1_eq]; rfl
  ·have h0 := row i hi 0 (Nat.zero_le _)
   rw [ref03_Tight.L1_1_0_1_0v1_eq, decide_eq_true (show (i : Int) < ((5 : Nat) : Int) by omega), cond_true]
   refine h0.trans ?_
   rw [ih, List.drop_zero, List.drop_eq_getElem_cons (show i < levels.length from hi), tightFrom]
   have e : levels[i]'hi = levels[i]'(show i < levels.length from hi) := rfl
   by_cases h : s ∈ levels[i]'hi
   ·rw [if_pos h]; exact (congrArg (fun x => some (Res.mk (.ret (.int .i64 x)) [] none)) (if_pos h)).symm
   ·rw [if_neg h]; exact (congrArg (fun x => some (Res.mk (.ret (.int .i64 x)) [] none)) (if_neg h)).symm
 have h0 := row 0 (by decide) 0 (Nat.zero_le _)
 refine h0.trans ?_
 rw [key 1 (by omega)]
 show (_ : Option Res) = some ⟨.ret (.int .i64 (tightFrom s ([[124, 124]] :: levels.drop 1) 0)), [], none⟩
 rw [tightFrom]
 by_cases h : s ∈ [([124, 124] : List UInt8)]
 ·exact (if_pos h).trans (congrArg (fun x => some (Res.mk (.ret (.int .i64 x)) [] none)) (if_pos h)).symm
 ·exact (if_neg h).trans (congrArg (fun x => some (Res.mk (.ret (.int .i64 x)) [] none)) (if_neg h)).symm
end Go.Proofs.YtmhnmelaodhemaaGreatDoor
namespace Go.Proofs.YtmhnmelaodhemaaGreatDoor
open Go Go.Proofs.Ab
namespace ref03_In_one
theorem eq (m0_0 : List (List V)) (m0_1 m0_2 m0_3 a1 : Int) : den Sp id [V.ref 0 0, V.int .i64 a1] [Blk.cells T_parallaxref03_In [V.sl .no T_api_Token m0_0, V.int .i64 m0_1, V.int .i64 m0_2, V.int .i64 m0_3] false] none =
  (bif (m0_2 != (0 : Int)) then (some ⟨Out.ret (V.agg [V.int .i64 (0 : Int), V.str (ByteArray.mk #[]), V.int .i64 (0 : Int), V.sl .no T_api_Expr []]), [Blk.cells T_parallaxref03_In [V.sl .no T_api_Token m0_0, V.int .i64 m0_1, V.int .i64 m0_2, V.int .i64 m0_3] false], none⟩) else (if (((0 : Int) <= m0_1) ∧ (m0_1 < (m0_0.length : Int))) then (V.asInt (List.getD (List.getD m0_0 (Int.toNat m0_1) []) 0 V.undef) .i64 (fun n8 => V.asStr (List.getD (List.getD m0_0 (Int.toNat m0_1) []) 1 V.undef) (fun s9 => V.asInt (List.getD (List.getD m0_0 (Int.toNat m0_1) []) 2 V.undef) .i64 (fun n10 => V.asInt (List.getD (List.getD m0_0 (Int.toNat m0_1) []) 3 V.undef) .i64 (fun n11 => (den Sp ref03_In_is.id [V.ref 0 0, V.str (ByteArray.mk #[45])] [Blk.cells T_parallaxref03_In [V.sl .no T_api_Token m0_0, V.int .i64 m0_1, V.int .i64 m0_2, V.int .i64 m0_3] false] none).bind (fun r13 => Blk.asCells (List.getD (Res.bl r13) 0 (Blk.cells T_n0 [] true)) T_parallaxref03_In 4 (fun rd14 => V.asSl (rd14 0) T_api_Token (fun es15 => V.asInt (rd14 1) .i64 (fun n16 => V.asInt (rd14 2) .i64 (fun n17 => V.asInt (rd14 3) .i64 (fun n18 => Res.onRet r13 (fun v19 => V.asBool v19 (fun b20 => bif b20 then (den Sp ref03_In_opens.id [V.ref 0 0] [Blk.cells T_parallaxref03_In [V.sl .no T_api_Token es15, V.int .i64 (IntKind.wrap .i64 (n16 + (1 : Int))), V.int .i64 n17, V.int .i64 n18] false] none).bind (fun r23 => Blk.asCells (List.getD (Res.bl r23) 0 (Blk.cells T_n0 [] true)) T_parallaxref03_In 4 (fun rd24 => V.asSl (rd24 0) T_api_Token (fun es25 => V.asInt (rd24 1) .i64 (fun n26 => V.asInt (rd24 2) .i64 (fun n27 => V.asInt (rd24 3) .i64 (fun n28 => Res.onRet r23 (fun v29 => V.asBool v29 (fun b30 => (den Sp ref03_In_part.id [V.ref 0 0, V.bool b30, V.int .i64 (IntKind.wrap .i64 (a1 + (1 : Int)))] [Blk.cells T_parallaxref03_In [V.sl .no T_api_Token es25, V.int .i64 n26, V.int .i64 n27, V.int .i64 n28] false] none).bind (fun r31 => Blk.asCells (List.getD (Res.bl r31) 0 (Blk.cells T_n0 [] true)) T_parallaxref03_In 4 (fun rd32 => V.asSl (rd32 0) T_api_Token (fun es33 => V.asInt (rd32 1) .i64 (fun n34 => V.asInt (rd32 2) .i64 (fun n35 => V.asInt (rd32 3) .i64 (fun n36 => Res.onRet r31 (fun v37 => V.asTup v37 0 (fun rd38 => (den Sp ref03_In_one.id [V.ref 0 0, V.int .i64 (IntKind.wrap .i64 (a1 + (1 : Int)))] [Blk.cells T_parallaxref03_In [V.sl .no T_api_Token es33, V.int .i64 n34, V.int .i64 n35, V.int .i64 n36] false] none).bind (fun r40 => Blk.asCells (List.getD (Res.bl r40) 0 (Blk.cells T_n0 [] true)) T_parallaxref03_In 4 (fun rd41 => V.asSl (rd41 0) T_api_Token (fun es42 => V.asInt (rd41 1) .i64 (fun n43 => V.asInt (rd41 2) .i64 (fun n44 => V.asInt (rd41 3) .i64 (fun n45 => Res.onRet r40 (fun v46 => V.asAgg v46 4 (fun rd47 => V.asInt (rd47 0) .i64 (fun n48 => V.asStr (rd47 1) (fun s49 => V.asInt (rd47 2) .i64 (fun n50 => V.asSl (rd47 3) T_api_Expr (fun es51 => some ⟨Out.ret (V.agg [V.int .i64 (5 : Int), V.str s9, V.int .i64 (0 : Int), V.sl .no T_api_Expr [[V.int .i64 n48, V.str s49, V.int .i64 n50, V.sl .no T_api_Expr es51]]]), [Blk.cells T_parallaxref03_In [V.sl .no T_api_Token es42, V.int .i64 n43, V.int .i64 n44, V.int .i64 n45] false], none⟩)))))))))))))))))))))))))))) else (den Sp ref03_In_is.id [V.ref 0 0, V.str (ByteArray.mk #[33])] [Blk.cells T_parallaxref03_In [V.sl .no T_api_Token es15, V.int .i64 n16, V.int .i64 n17, V.int .i64 n18] false] none).bind (fun r21 => Blk.asCells (List.getD (Res.bl r21) 0 (Blk.cells T_n0 [] true)) T_parallaxref03_In 4 (fun rd22 => V.asSl (rd22 0) T_api_Token (fun es23 => V.asInt (rd22 1) .i64 (fun n24 => V.asInt (rd22 2) .i64 (fun n25 => V.asInt (rd22 3) .i64 (fun n26 => Res.onRet r21 (fun v27 => V.asBool v27 (fun b28 => bif b28 then (den Sp ref03_In_opens.id [V.ref 0 0] [Blk.cells T_parallaxref03_In [V.sl .no T_api_Token es23, V.int .i64 (IntKind.wrap .i64 (n24 + (1 : Int))), V.int .i64 n25, V.int .i64 n26] false] none).bind (fun r31 => Blk.asCells (List.getD (Res.bl r31) 0 (Blk.cells T_n0 [] true)) T_parallaxref03_In 4 (fun rd32 => V.asSl (rd32 0) T_api_Token (fun es33 => V.asInt (rd32 1) .i64 (fun n34 => V.asInt (rd32 2) .i64 (fun n35 => V.asInt (rd32 3) .i64 (fun n36 => Res.onRet r31 (fun v37 => V.asBool v37 (fun b38 => (den Sp ref03_In_part.id [V.ref 0 0, V.bool b38, V.int .i64 (IntKind.wrap .i64 (a1 + (1 : Int)))] [Blk.cells T_parallaxref03_In [V.sl .no T_api_Token es33, V.int .i64 n34, V.int .i64 n35, V.int .i64 n36] false] none).bind (fun r39 => Blk.asCells (List.getD (Res.bl r39) 0 (Blk.cells T_n0 [] true)) T_parallaxref03_In 4 (fun rd40 => V.asSl (rd40 0) T_api_Token (fun es41 => V.asInt (rd40 1) .i64 (fun n42 => V.asInt (rd40 2) .i64 (fun n43 => V.asInt (rd40 3) .i64 (fun n44 => Res.onRet r39 (fun v45 => V.asTup v45 0 (fun rd46 => (den Sp ref03_In_one.id [V.ref 0 0, V.int .i64 (IntKind.wrap .i64 (a1 + (1 : Int)))] [Blk.cells T_parallaxref03_In [V.sl .no T_api_Token es41, V.int .i64 n42, V.int .i64 n43, V.int .i64 n44] false] none).bind (fun r48 => Blk.asCells (List.getD (Res.bl r48) 0 (Blk.cells T_n0 [] true)) T_parallaxref03_In 4 (fun rd49 => V.asSl (rd49 0) T_api_Token (fun es50 => V.asInt (rd49 1) .i64 (fun n51 => V.asInt (rd49 2) .i64 (fun n52 => V.asInt (rd49 3) .i64 (fun n53 => Res.onRet r48 (fun v54 => V.asAgg v54 4 (fun rd55 => V.asInt (rd55 0) .i64 (fun n56 => V.asStr (rd55 1) (fun s57 => V.asInt (rd55 2) .i64 (fun n58 => V.asSl (rd55 3) T_api_Expr (fun es59 => some ⟨Out.ret (V.agg [V.int .i64 (5 : Int), V.str s9, V.int .i64 (0 : Int), V.sl .no T_api_Expr [[V.int .i64 n56, V.str s57, V.int .i64 n58, V.sl .no T_api_Expr es59]]]), [Blk.cells T_parallaxref03_In [V.sl .no T_api_Token es50, V.int .i64 n51, V.int .i64 n52, V.int .i64 n53] false], none⟩)))))))))))))))))))))))))))) else (den Sp ref03_In_got.id [V.ref 0 0, V.str (ByteArray.mk #[40])] [Blk.cells T_parallaxref03_In [V.sl .no T_api_Token es23, V.int .i64 n24, V.int .i64 n25, V.int .i64 n26] false] none).bind (fun r30 => Blk.asCells (List.getD (Res.bl r30) 0 (Blk.cells T_n0 [] true)) T_parallaxref03_In 4 (fun rd31 => V.asSl (rd31 0) T_api_Token (fun es32 => V.asInt (rd31 1) .i64 (fun n33 => V.asInt (rd31 2) .i64 (fun n34 => V.asInt (rd31 3) .i64 (fun n35 => Res.onRet r30 (fun v36 => V.asBool v36 (fun b37 => bif b37 then (den Sp ref03_In_expr.id [V.ref 0 0, V.int .i64 (IntKind.wrap .i64 (a1 + (1 : Int)))] [Blk.cells T_parallaxref03_In [V.sl .no T_api_Token es32, V.int .i64 n33, V.int .i64 n34, V.int .i64 n35] false] none).bind (fun r39 => Blk.asCells (List.getD (Res.bl r39) 0 (Blk.cells T_n0 [] true)) T_parallaxref03_In 4 (fun rd40 => V.asSl (rd40 0) T_api_Token (fun es41 => V.asInt (rd40 1) .i64 (fun n42 => V.asInt (rd40 2) .i64 (fun n43 => V.asInt (rd40 3) .i64 (fun n44 => Res.onRet r39 (fun v45 => V.asAgg v45 4 (fun rd46 => V.asInt (rd46 0) .i64 (fun n47 => V.asStr (rd46 1) (fun s48 => V.asInt (rd46 2) .i64 (fun n49 => V.asSl (rd46 3) T_api_Expr (fun es50 => (den Sp ref03_In_want.id [V.ref 0 0, V.str (ByteArray.mk #[41])] [Blk.cells T_parallaxref03_In [V.sl .no T_api_Token es41, V.int .i64 n42, V.int .i64 n43, V.int .i64 n44] false] none).bind (fun r52 => Blk.asCells (List.getD (Res.bl r52) 0 (Blk.cells T_n0 [] true)) T_parallaxref03_In 4 (fun rd53 => V.asSl (rd53 0) T_api_Token (fun es54 => V.asInt (rd53 1) .i64 (fun n55 => V.asInt (rd53 2) .i64 (fun n56 => V.asInt (rd53 3) .i64 (fun n57 => Res.onRet r52 (fun v58 => V.asTup v58 0 (fun rd59 => some ⟨Out.ret (V.agg [V.int .i64 n47, V.str s48, V.int .i64 n49, V.sl .no T_api_Expr es50]), [Blk.cells T_parallaxref03_In [V.sl .no T_api_Token es54, V.int .i64 n55, V.int .i64 n56, V.int .i64 n57] false], none⟩)))))))))))))))))))) else (den Sp ref03_In_got.id [V.ref 0 0, V.str (ByteArray.mk #[116, 114, 117, 101])] [Blk.cells T_parallaxref03_In [V.sl .no T_api_Token es32, V.int .i64 n33, V.int .i64 n34, V.int .i64 n35] false] none).bind (fun r39 => Blk.asCells (List.getD (Res.bl r39) 0 (Blk.cells T_n0 [] true)) T_parallaxref03_In 4 (fun rd40 => V.asSl (rd40 0) T_api_Token (fun es41 => V.asInt (rd40 1) .i64 (fun n42 => V.asInt (rd40 2) .i64 (fun n43 => V.asInt (rd40 3) .i64 (fun n44 => Res.onRet r39 (fun v45 => V.asBool v45 (fun b46 => bif b46 then (some ⟨Out.ret (V.agg [V.int .i64 (2 : Int), V.str (ByteArray.mk #[]), V.int .i64 (1 : Int), V.sl .no T_api_Expr []]), [Blk.cells T_parallaxref03_In [V.sl .no T_api_Token es41, V.int .i64 n42, V.int .i64 n43, V.int .i64 n44] false], none⟩) else (den Sp ref03_In_got.id [V.ref 0 0, V.str (ByteArray.mk #[102, 97, 108, 115, 101])] [Blk.cells T_parallaxref03_In [V.sl .no T_api_Token es41, V.int .i64 n42, V.int .i64 n43, V.int .i64 n44] false] none).bind (fun r48 => Blk.asCells (List.getD (Res.bl r48) 0 (Blk.cells T_n0 [] true)) T_parallaxref03_In 4 (fun rd49 => V.asSl (rd49 0) T_api_Token (fun es50 => V.asInt (rd49 1) .i64 (fun n51 => V.asInt (rd49 2) .i64 (fun n52 => V.asInt (rd49 3) .i64 (fun n53 => Res.onRet r48 (fun v54 => V.asBool v54 (fun b55 => bif b55 then (some ⟨Out.ret (V.agg [V.int .i64 (2 : Int), V.str (ByteArray.mk #[]), V.int .i64 (0 : Int), V.sl .no T_api_Expr []]), [Blk.cells T_parallaxref03_In [V.sl .no T_api_Token es50, V.int .i64 n51, V.int .i64 n52, V.int .i64 n53] false], none⟩) else (bif (n8 == (2 : Int)) then (some ⟨Out.ret (V.agg [V.int .i64 (1 : Int), V.str (ByteArray.mk #[]), V.int .i64 n10, V.sl .no T_api_Expr []]), [Blk.cells T_parallaxref03_In [V.sl .no T_api_Token es50, V.int .i64 (IntKind.wrap .i64 (n51 + (1 : Int))), V.int .i64 n52, V.int .i64 n53] false], none⟩) else (den Sp ref03_In_word.id [V.ref 0 0] [Blk.cells T_parallaxref03_In [V.sl .no T_api_Token es50, V.int .i64 n51, V.int .i64 n52, V.int .i64 n53] false] none).bind (fun r58 => Blk.asCells (List.getD (Res.bl r58) 0 (Blk.cells T_n0 [] true)) T_parallaxref03_In 4 (fun rd59 => V.asSl (rd59 0) T_api_Token (fun es60 => V.asInt (rd59 1) .i64 (fun n61 => V.asInt (rd59 2) .i64 (fun n62 => V.asInt (rd59 3) .i64 (fun n63 => Res.onRet r58 (fun v64 => V.asStr v64 (fun s65 => (den Sp ref03_In_got.id [V.ref 0 0, V.str (ByteArray.mk #[91])] [Blk.cells T_parallaxref03_In [V.sl .no T_api_Token es60, V.int .i64 n61, V.int .i64 n62, V.int .i64 n63] false] none).bind (fun r67 => Blk.asCells (List.getD (Res.bl r67) 0 (Blk.cells T_n0 [] true)) T_parallaxref03_In 4 (fun rd68 => V.asSl (rd68 0) T_api_Token (fun es69 => V.asInt (rd68 1) .i64 (fun n70 => V.asInt (rd68 2) .i64 (fun n71 => V.asInt (rd68 3) .i64 (fun n72 => Res.onRet r67 (fun v73 => V.asBool v73 (fun b74 => bif b74 then (den Sp ref03_In_expr.id [V.ref 0 0, V.int .i64 (IntKind.wrap .i64 (a1 + (1 : Int)))] [Blk.cells T_parallaxref03_In [V.sl .no T_api_Token es69, V.int .i64 n70, V.int .i64 n71, V.int .i64 n72] false] none).bind (fun r76 => Blk.asCells (List.getD (Res.bl r76) 0 (Blk.cells T_n0 [] true)) T_parallaxref03_In 4 (fun rd77 => V.asSl (rd77 0) T_api_Token (fun es78 => V.asInt (rd77 1) .i64 (fun n79 => V.asInt (rd77 2) .i64 (fun n80 => V.asInt (rd77 3) .i64 (fun n81 => Res.onRet r76 (fun v82 => V.asAgg v82 4 (fun rd83 => V.asInt (rd83 0) .i64 (fun n84 => V.asStr (rd83 1) (fun s85 => V.asInt (rd83 2) .i64 (fun n86 => V.asSl (rd83 3) T_api_Expr (fun es87 => (den Sp ref03_In_want.id [V.ref 0 0, V.str (ByteArray.mk #[93])] [Blk.cells T_parallaxref03_In [V.sl .no T_api_Token es78, V.int .i64 n79, V.int .i64 n80, V.int .i64 n81] false] none).bind (fun r89 => Blk.asCells (List.getD (Res.bl r89) 0 (Blk.cells T_n0 [] true)) T_parallaxref03_In 4 (fun rd90 => V.asSl (rd90 0) T_api_Token (fun es91 => V.asInt (rd90 1) .i64 (fun n92 => V.asInt (rd90 2) .i64 (fun n93 => V.asInt (rd90 3) .i64 (fun n94 => Res.onRet r89 (fun v95 => V.asTup v95 0 (fun rd96 => some ⟨Out.ret (V.agg [V.int .i64 (4 : Int), V.str s65, V.int .i64 (0 : Int), V.sl .no T_api_Expr [[V.int .i64 n84, V.str s85, V.int .i64 n86, V.sl .no T_api_Expr es87]]]), [Blk.cells T_parallaxref03_In [V.sl .no T_api_Token es91, V.int .i64 n92, V.int .i64 n93, V.int .i64 n94] false], none⟩)))))))))))))))))))) else (some ⟨Out.ret (V.agg [V.int .i64 (3 : Int), V.str s65, V.int .i64 (0 : Int), V.sl .no T_api_Expr []]), [Blk.cells T_parallaxref03_In [V.sl .no T_api_Token es69, V.int .i64 n70, V.int .i64 n71, V.int .i64 n72] false], none⟩))))))))))))))))))))))))))))))))))))))))))))))))))))))))))))))) else none)) := (den_eq ..).trans (by kernel_rfl)
end ref03_In_one
namespace ref03_In_tight
noncomputable abbrev e (p : List Nat) := ev Sp (den Sp) id Tryz.f183.ntmps (cAt (bodyOf Tryz.f183) p)
noncomputable abbrev cn (n0 : List Nat) := canon Sp id n0
noncomputable abbrev K : K := kFin Sp (den Sp) (Sp.oo id) Tryz.f183 1
noncomputable def L1_1_1_0_0 (i0 i1 i2 : Int) (l3 : List (List V)) (i4 i5 i6 i7 : Int) (s8 : ByteArray) (i9 : Int) (l10 : List (List V)) : Option Res := LP (e [1, 1, 1, 0, 0, 0]) (cn [0, 1006, 1007]) (kBlk 0 (kSeq (e [1, 1, 1, 1]) (K))) ([(0, (V.ref 0 0)), (1, (V.int .i64 i0)), (2, (V.int .i64 i1)), (6, (V.ref 1006 0)), (7, (V.ref 1007 0)), (8, (V.int .i64 i2))], ⟨[(0, (Blk.cells T_parallaxref03_In [V.sl .no T_api_Token l3, V.int .i64 i4, V.int .i64 i5, V.int .i64 i6] false)), (1006, (Blk.cells T_api_Expr [V.int .i64 (0 : Int), V.str (ByteArray.mk #[]), V.int .i64 (0 : Int), V.sl (Tok.row 0) T_api_Expr []] false)), (1007, (Blk.cells T_api_Expr [V.int .i64 i7, V.str s8, V.int .i64 i9, V.sl .no T_api_Expr l10] false))], [0], [], [], none⟩)
theorem L1_1_1_0_0_eq (i0 i1 i2 : Int) (l3 : List (List V)) (i4 i5 i6 i7 : Int) (s8 : ByteArray) (i9 : Int) (l10 : List (List V)) : L1_1_1_0_0 i0 i1 i2 l3 i4 i5 i6 i7 s8 i9 l10 =
  (bif (i5 == (0 : Int)) then (if (((0 : Int) <= i4) ∧ (i4 < (l3.length : Int))) then (V.asInt (List.getD (List.getD l3 (Int.toNat i4) []) 0 V.undef) .i64 (fun n33 => bif (n33 == (4 : Int)) then (if (((0 : Int) <= i4) ∧ (i4 < (l3.length : Int))) then (V.asStr (List.getD (List.getD l3 (Int.toNat i4) []) 1 V.undef) (fun s35 => (den Sp ref03_Tight.id [V.str s35] [] none).bind (fun r37 => Res.onRet r37 (fun v38 => V.asInt v38 .i64 (fun n39 => bif (n39 == (0 : Int)) then (some ⟨Out.ret (V.agg [V.int .i64 i7, V.str s8, V.int .i64 i9, V.sl .no T_api_Expr l10]), [Blk.cells T_parallaxref03_In [V.sl .no T_api_Token l3, V.int .i64 i4, V.int .i64 i5, V.int .i64 i6] false], none⟩) else (bif (decide (n39 < i0)) then (some ⟨Out.ret (V.agg [V.int .i64 i7, V.str s8, V.int .i64 i9, V.sl .no T_api_Expr l10]), [Blk.cells T_parallaxref03_In [V.sl .no T_api_Token l3, V.int .i64 i4, V.int .i64 i5, V.int .i64 i6] false], none⟩) else (bif (decide (n39 > i2)) then (some ⟨Out.ret (V.agg [V.int .i64 i7, V.str s8, V.int .i64 i9, V.sl .no T_api_Expr l10]), [Blk.cells T_parallaxref03_In [V.sl .no T_api_Token l3, V.int .i64 i4, V.int .i64 i5, V.int .i64 i6] false], none⟩) else (den Sp ref03_In_tight.id [V.ref 0 0, V.int .i64 (IntKind.wrap .i64 (n39 + (1 : Int))), V.int .i64 i1] [Blk.cells T_parallaxref03_In [V.sl .no T_api_Token l3, V.int .i64 (IntKind.wrap .i64 (i4 + (1 : Int))), V.int .i64 i5, V.int .i64 i6] false] none).bind (fun r43 => Blk.asCells (List.getD (Res.bl r43) 0 (Blk.cells T_n0 [] true)) T_parallaxref03_In 4 (fun rd44 => V.asSl (rd44 0) T_api_Token (fun es45 => V.asInt (rd44 1) .i64 (fun n46 => V.asInt (rd44 2) .i64 (fun n47 => V.asInt (rd44 3) .i64 (fun n48 => Res.onRet r43 (fun v49 => V.asAgg v49 4 (fun rd50 => V.asInt (rd50 0) .i64 (fun n51 => V.asStr (rd50 1) (fun s52 => V.asInt (rd50 2) .i64 (fun n53 => V.asSl (rd50 3) T_api_Expr (fun es54 => bif (n39 == (3 : Int)) then (L1_1_1_0_0 i0 i1 (2 : Int) es45 n46 n47 n48 (6 : Int) s35 (0 : Int) [[V.int .i64 i7, V.str s8, V.int .i64 i9, V.sl .no T_api_Expr l10], [V.int .i64 n51, V.str s52, V.int .i64 n53, V.sl .no T_api_Expr es54]]) else (L1_1_1_0_0 i0 i1 n39 es45 n46 n47 n48 (6 : Int) s35 (0 : Int) [[V.int .i64 i7, V.str s8, V.int .i64 i9, V.sl .no T_api_Expr l10], [V.int .i64 n51, V.str s52, V.int .i64 n53, V.sl .no T_api_Expr es54]])))))))))))))))))))) else none) else (some ⟨Out.ret (V.agg [V.int .i64 i7, V.str s8, V.int .i64 i9, V.sl .no T_api_Expr l10]), [Blk.cells T_parallaxref03_In [V.sl .no T_api_Token l3, V.int .i64 i4, V.int .i64 i5, V.int .i64 i6] false], none⟩))) else none) else (some ⟨Out.ret (V.agg [V.int .i64 i7, V.str s8, V.int .i64 i9, V.sl .no T_api_Expr l10]), [Blk.cells T_parallaxref03_In [V.sl .no T_api_Token l3, V.int .i64 i4, V.int .i64 i5, V.int .i64 i6] false], none⟩)) := (LP_eq ..).trans (by kernel_rfl)
theorem eq (m0_0 : List (List V)) (m0_1 m0_2 m0_3 a1 a2 : Int) : den Sp id [V.ref 0 0, V.int .i64 a1, V.int .i64 a2] [Blk.cells T_parallaxref03_In [V.sl .no T_api_Token m0_0, V.int .i64 m0_1, V.int .i64 m0_2, V.int .i64 m0_3] false] none =
  (den Sp ref03_In_one.id [V.ref 0 0, V.int .i64 a2] [Blk.cells T_parallaxref03_In [V.sl .no T_api_Token m0_0, V.int .i64 m0_1, V.int .i64 m0_2, V.int .i64 m0_3] false] none).bind (fun r8 => Blk.asCells (List.getD (Res.bl r8) 0 (Blk.cells T_n0 [] true)) T_parallaxref03_In 4 (fun rd9 => V.asSl (rd9 0) T_api_Token (fun es10 => V.asInt (rd9 1) .i64 (fun n11 => V.asInt (rd9 2) .i64 (fun n12 => V.asInt (rd9 3) .i64 (fun n13 => Res.onRet r8 (fun v14 => V.asAgg v14 4 (fun rd15 => V.asInt (rd15 0) .i64 (fun n16 => V.asStr (rd15 1) (fun s17 => V.asInt (rd15 2) .i64 (fun n18 => V.asSl (rd15 3) T_api_Expr (fun es19 => L1_1_1_0_0 a1 a2 (5 : Int) es10 n11 n12 n13 n16 s17 n18 es19)))))))))))) := (den_eq ..).trans (by kernel_rfl)
end ref03_In_tight
namespace ref03_In_expr
theorem eq (m0_0 : List (List V)) (m0_1 m0_2 m0_3 a1 : Int) : den Sp id [V.ref 0 0, V.int .i64 a1] [Blk.cells T_parallaxref03_In [V.sl .no T_api_Token m0_0, V.int .i64 m0_1, V.int .i64 m0_2, V.int .i64 m0_3] false] none =
  (den Sp ref03_In_opens.id [V.ref 0 0] [Blk.cells T_parallaxref03_In [V.sl .no T_api_Token m0_0, V.int .i64 m0_1, V.int .i64 m0_2, V.int .i64 m0_3] false] none).bind (fun r7 => Blk.asCells (List.getD (Res.bl r7) 0 (Blk.cells T_n0 [] true)) T_parallaxref03_In 4 (fun rd8 => V.asSl (rd8 0) T_api_Token (fun es9 => V.asInt (rd8 1) .i64 (fun n10 => V.asInt (rd8 2) .i64 (fun n11 => V.asInt (rd8 3) .i64 (fun n12 => Res.onRet r7 (fun v13 => V.asBool v13 (fun b14 => (den Sp ref03_In_part.id [V.ref 0 0, V.bool b14, V.int .i64 a1] [Blk.cells T_parallaxref03_In [V.sl .no T_api_Token es9, V.int .i64 n10, V.int .i64 n11, V.int .i64 n12] false] none).bind (fun r15 => Blk.asCells (List.getD (Res.bl r15) 0 (Blk.cells T_n0 [] true)) T_parallaxref03_In 4 (fun rd16 => V.asSl (rd16 0) T_api_Token (fun es17 => V.asInt (rd16 1) .i64 (fun n18 => V.asInt (rd16 2) .i64 (fun n19 => V.asInt (rd16 3) .i64 (fun n20 => Res.onRet r15 (fun v21 => V.asTup v21 0 (fun rd22 => (den Sp ref03_In_tight.id [V.ref 0 0, V.int .i64 (1 : Int), V.int .i64 a1] [Blk.cells T_parallaxref03_In [V.sl .no T_api_Token es17, V.int .i64 n18, V.int .i64 n19, V.int .i64 n20] false] none).bind (fun r24 => Blk.asCells (List.getD (Res.bl r24) 0 (Blk.cells T_n0 [] true)) T_parallaxref03_In 4 (fun rd25 => V.asSl (rd25 0) T_api_Token (fun es26 => V.asInt (rd25 1) .i64 (fun n27 => V.asInt (rd25 2) .i64 (fun n28 => V.asInt (rd25 3) .i64 (fun n29 => Res.onRet r24 (fun v30 => V.asAgg v30 4 (fun rd31 => V.asInt (rd31 0) .i64 (fun n32 => V.asStr (rd31 1) (fun s33 => V.asInt (rd31 2) .i64 (fun n34 => V.asSl (rd31 3) T_api_Expr (fun es35 => some ⟨Out.ret (V.agg [V.int .i64 n32, V.str s33, V.int .i64 n34, V.sl .no T_api_Expr es35]), [Blk.cells T_parallaxref03_In [V.sl .no T_api_Token es26, V.int .i64 n27, V.int .i64 n28, V.int .i64 n29] false], none⟩)))))))))))))))))))))))))))) := (den_eq ..).trans (by kernel_rfl)
end ref03_In_expr
namespace ref03_ReadExpr
theorem eq (a0 : List (List V)) (a1 : Int) : den Sp id [V.sl .no T_api_Token a0, V.int .i64 a1] [] none =
  (den Sp ref02_Right.id [V.sl .no T_api_Token a0] [] none).bind (fun r4 => Res.onRet r4 (fun v5 => V.asBool v5 (fun b6 => bif (!b6) then (some ⟨Out.ret (V.tup [V.agg [V.int .i64 (0 : Int), V.str (ByteArray.mk #[]), V.int .i64 (0 : Int), V.sl .no T_api_Expr []], V.int .i64 (0 : Int), V.int .i64 (0 : Int), V.int .i64 (32 : Int)]), [], none⟩) else (bif (decide (a1 < (0 : Int))) then (some ⟨Out.ret (V.tup [V.agg [V.int .i64 (0 : Int), V.str (ByteArray.mk #[]), V.int .i64 (0 : Int), V.sl .no T_api_Expr []], V.int .i64 (0 : Int), V.int .i64 (0 : Int), V.int .i64 (32 : Int)]), [], none⟩) else (bif (decide (a1 >= (a0.length : Int))) then (some ⟨Out.ret (V.tup [V.agg [V.int .i64 (0 : Int), V.str (ByteArray.mk #[]), V.int .i64 (0 : Int), V.sl .no T_api_Expr []], V.int .i64 (0 : Int), V.int .i64 (0 : Int), V.int .i64 (32 : Int)]), [], none⟩) else (den Sp ref03_In_expr.id [V.ref 0 0, V.int .i64 (1 : Int)] [Blk.cells T_parallaxref03_In [V.sl .no T_api_Token a0, V.int .i64 a1, V.int .i64 (0 : Int), V.int .i64 (0 : Int)] false] none).bind (fun r9 => Blk.asCells (List.getD (Res.bl r9) 0 (Blk.cells T_n0 [] true)) T_parallaxref03_In 4 (fun rd10 => V.asSl (rd10 0) T_api_Token (fun es11 => V.asInt (rd10 1) .i64 (fun n12 => V.asInt (rd10 2) .i64 (fun n13 => V.asInt (rd10 3) .i64 (fun n14 => Res.onRet r9 (fun v15 => V.asAgg v15 4 (fun rd16 => V.asInt (rd16 0) .i64 (fun n17 => V.asStr (rd16 1) (fun s18 => V.asInt (rd16 2) .i64 (fun n19 => V.asSl (rd16 3) T_api_Expr (fun es20 => bif (n13 != (0 : Int)) then (some ⟨Out.ret (V.tup [V.agg [V.int .i64 (0 : Int), V.str (ByteArray.mk #[]), V.int .i64 (0 : Int), V.sl .no T_api_Expr []], V.int .i64 (0 : Int), V.int .i64 n14, V.int .i64 n13]), [], none⟩) else (some ⟨Out.ret (V.tup [V.agg [V.int .i64 n17, V.str s18, V.int .i64 n19, V.sl .no T_api_Expr es20], V.int .i64 n12, V.int .i64 (0 : Int), V.int .i64 (0 : Int)]), [], none⟩)))))))))))))))))) := (den_eq ..).trans (by kernel_rfl)
end ref03_ReadExpr
end Go.Proofs.YtmhnmelaodhemaaGreatDoor
namespace Go.Proofs.YtmhnmelaodhemaaGreatDoor
open Go Go.Proofs.Ab Go.Proofs.Px
attribute [local congr] bind_h asInt_h asBool_h asStr_h asSl_h asSlR_h asAgg_h asTup_h asIface_h asCells_h onRet_h onOut_h cond_h
theorem tightN_level (s : List UInt8) : tightN s = levelT s := by
 by_cases h1 : s = [124, 124]
 ·subst h1; rfl
 by_cases h2 : s = [38, 38]
 ·subst h2; rfl
 by_cases h3 : s = [61, 61]
 ·subst h3; rfl
 by_cases h4 : s = [33, 61]
 ·subst h4; rfl
 by_cases h5 : s = [60]
 ·subst h5; rfl
 by_cases h6 : s = [60, 61]
 ·subst h6; rfl
 by_cases h7 : s = [43]
 ·subst h7; rfl
 by_cases h8 : s = [45]
 ·subst h8; rfl
 by_cases h9 : s = [42]
 ·subst h9; rfl
 by_cases h10 : s = [47]
 ·subst h10; rfl
 by_cases h11 : s = [37]
 ·subst h11; rfl
 simp [tightN, levelT, h1, h2, h3, h4, h5, h6, h7, h8, h9, h10, h11]
theorem un_v (m : Int) (s : List UInt8) (x : Ex) : Ex.v (.mk m s 0 [x]) = [.int .i64 m, .str (B s), .int .i64 0, .sl .no T_api_Expr [x.v]] := by rw [Ex.v_mk]; rfl
theorem leaf_v (m : Int) (s : List UInt8) (n : Int) : Ex.v (.mk m s n []) = [.int .i64 m, .str (B s), .int .i64 n, .sl .no T_api_Expr []] := by rw [Ex.v_mk]; rfl
def In3 (l : List Tk) (r : Rd) (o : Option Res) : Prop := match r with
 | .ok (x, j) => o = some ⟨.ret (.agg x.v), [inB l j 0 0], none⟩
 | .error e => e.2 ≠ 0 ∧ ∃ (x : Ex) (j : Nat), j < l.length ∧ o = some ⟨.ret (.agg x.v), [inB l j e.2 e.1], none⟩
section
variable {l : List Tk} (hl : Ended l) (hn : l.length <= 100000)
include hl hn
theorem one_3b {k : Nat} (hk : k < l.length) (d : Int) {e a : Int} (he : e ≠ 0) : den Sp ref03_In_one.id [.ref 0 0, .int .i64 d] [inB l k e a] none = some ⟨.ret (.agg E0.v), [inB l k e a], none⟩ := by
 unfold inB
 have : (e != 0) = true := by simpa using he
 rw [ref03_In_one.eq, this, cond_true, Ex.v_mk]; rfl
theorem tight_3b {k : Nat} (hk : k < l.length) (n d : Int) {e a : Int} (he : e ≠ 0) : den Sp ref03_In_tight.id [.ref 0 0, .int .i64 n, .int .i64 d] [inB l k e a] none = some ⟨.ret (.agg E0.v), [inB l k e a], none⟩ := by
 have h := one_3b hl hn hk d (a := a) he
 have : (e == 0) = false := by simpa using he
 unfold inB at *
 rw [ref03_In_tight.eq]
 simp only [h, lz, lx, if_true, if_false]
 rw [ref03_In_tight.L1_1_1_0_0_eq, this, cond_false, Ex.v_mk]; rfl
theorem expr_3 {k : Nat} (hk : k < l.length) (d : Int) (hT : d <= 60 -> In3 l (tightW l 1 d k) (den Sp ref03_In_tight.id [.ref 0 0, .int .i64 1, .int .i64 d] [inB l k 0 0] none)) :
  In3 l (partR l d k (tightW l 1 d k)) (den Sp ref03_In_expr.id [.ref 0 0, .int .i64 d] [inB l k 0 0] none) := by
 have h1 := opens_3 hn hk 0 0
 have h2 := part_3 hn hk (opensT (tk l k)) d 0 0
 have h3 := fun e (he : e ≠ 0) => tight_3b hl hn hk 1 d (a := (tk l k).at_) he
 unfold partR
 cases c : opensT (tk l k) with
 | false =>
  rw [c] at h1 h2
  refine ⟨(by decide : (30 : Int) ≠ 0), E0, k, hk, ?_⟩
  have h3 := h3 30 (by decide)
  simp only [decide_true, Bool.true_and, if_true] at h1 h2
  unfold inB at *
  rw [ref03_In_expr.eq]
  simp only [h1, h2, h3, lz, lx, if_true, if_false, Ex.v_list]
 | true =>
  rw [c] at h1 h2
  rw [if_neg (by simp)]
  by_cases c2 : 60 < d
  ·rw [if_pos c2]
   refine ⟨(by decide : (31 : Int) ≠ 0), E0, k, hk, ?_⟩
   have h3 := h3 31 (by decide)
   simp only [decide_true, Bool.true_and, if_true, if_pos c2, Bool.true_eq_false, if_false] at h1 h2
   unfold inB at *
   rw [ref03_In_expr.eq]
   simp only [h1, h2, h3, lz, lx, if_true, if_false, Ex.v_list]
  ·rw [if_neg c2]
   have hT := hT (by omega)
   simp only [decide_true, Bool.true_and, if_true, if_neg c2, Bool.true_eq_false, if_false] at h1 h2
   unfold In3 at *
   cases r : tightW l 1 d k with
   | error e =>
    rw [r] at hT
    obtain ⟨he, x, j, hj, h4⟩ := hT
    refine ⟨he, x, j, hj, ?_⟩
    unfold inB at *
    rw [ref03_In_expr.eq]
    simp only [h1, h2, h4, lz, lx, if_true, if_false, Ex.v_list]
   | ok q =>
    obtain ⟨x, j⟩ := q
    rw [r] at hT
    simp only at hT ⊢
    unfold inB at *
    rw [ref03_In_expr.eq]
    simp only [h1, h2, hT, lz, lx, if_true, if_false, Ex.v_list]
structure Far3 (l : List Tk) (k : Nat) : Prop where
 one : ∀ k', k < k' -> k' < l.length -> ∀ d : Int, 0 <= d -> d <= 60 -> In3 l (oneW l d k') (den Sp ref03_In_one.id [.ref 0 0, .int .i64 d] [inB l k' 0 0] none)
 tight : ∀ k', k < k' -> k' < l.length -> ∀ n d : Int, 0 <= d -> d <= 60 -> In3 l (tightW l n d k') (den Sp ref03_In_tight.id [.ref 0 0, .int .i64 n, .int .i64 d] [inB l k' 0 0] none)
theorem one_3 {k : Nat} (hk : k < l.length) (d : Int) (h0 : 0 <= d) (h6 : d <= 60) (far : Far3 l k) : In3 l (oneW l d k) (den Sp ref03_In_one.id [.ref 0 0, .int .i64 d] [inB l k 0 0] none) := by
 have his := fun s => is_3 hn hk s 0 0
 have hgot := fun s => got_3 hn hk s 0 0
 have hw := wr1 (show k < 1099511627776 by omega)
 have hw2 := wr1 (show k + 1 < 1099511627776 by omega)
 have hd : IntKind.i64.wrap (d + 1) = d + 1 := wrap_in (by omega) (by omega)
 have r := row_in hk
 simp only [decide_true, Bool.true_and, true_and] at his hgot
 rw [oneW, dif_pos hk]
 by_cases c1 : isT (tk l k) [45] = true ∨ isT (tk l k) [33] = true
 ·rw [if_pos c1]
  have hk1 : k + 1 < l.length := by rcases c1 with c | c <;> exact hl.isT hk c
  have ho := opens_3 hn hk1 0 0
  have hp := part_3 hn hk1 (opensT (tk l (k + 1))) (d + 1) 0 0
  have hb := fun e (he : e ≠ 0) => one_3b hl hn hk1 (d + 1) (a := (tk l (k + 1)).at_) he
  have c1' : isT (tk l k) [45] = true ∨ (isT (tk l k) [45] = false ∧ isT (tk l k) [33] = true) := by
   rcases c1 with c | c
   ·exact .inl c
   ·cases c45 : isT (tk l k) [45]
    ·exact .inr ⟨rfl, c⟩
    ·exact .inl rfl
  clear c1
  unfold partR
  simp only [decide_true, Bool.true_and, if_true] at ho hp
  cases co : opensT (tk l (k + 1)) with
  | false =>
   rw [co] at ho hp
   refine ⟨(by decide : (30 : Int) ≠ 0), .mk 5 (tk l k).text 0 [E0], k + 1, hk1, ?_⟩
   have hb := hb 30 (by decide)
   simp only [if_true] at hp
   rw [un_v]
   unfold inB at *
   rw [ref03_In_one.eq]
   rcases c1' with c | ⟨c, c2⟩
   ·simp only [his, hgot, c, ho, hp, hb, hw, hd, if_pos r, Int.toNat_natCast, tok_g hk, tkv_0, tkv_1, tkv_2, tkv_3, lz, lx, if_true, if_false]
   ·simp only [his, hgot, c, c2, ho, hp, hb, hw, hd, if_pos r, Int.toNat_natCast, tok_g hk, tkv_0, tkv_1, tkv_2, tkv_3, lz, lx, if_true, if_false]
  | true =>
   rw [co] at ho hp
   rw [if_neg (by simp)]
   by_cases c6 : 60 < d + 1
   ·rw [if_pos c6]
    refine ⟨(by decide : (31 : Int) ≠ 0), .mk 5 (tk l k).text 0 [E0], k + 1, hk1, ?_⟩
    have hb := hb 31 (by decide)
    simp only [if_pos c6, Bool.true_eq_false, if_false] at hp
    rw [un_v]
    unfold inB at *
    rw [ref03_In_one.eq]
    rcases c1' with c | ⟨c, c2⟩
    ·simp only [his, hgot, c, ho, hp, hb, hw, hd, if_pos r, Int.toNat_natCast, tok_g hk, tkv_0, tkv_1, tkv_2, tkv_3, lz, lx, if_true, if_false]
    ·simp only [his, hgot, c, c2, ho, hp, hb, hw, hd, if_pos r, Int.toNat_natCast, tok_g hk, tkv_0, tkv_1, tkv_2, tkv_3, lz, lx, if_true, if_false]
   ·rw [if_neg c6]
    have ih := far.one (k + 1) (by omega) hk1 (d + 1) (by omega) (by omega)
    simp only [if_neg c6, Bool.true_eq_false, if_false] at hp
    unfold In3 at ih ⊢
    cases hq : oneW l (d + 1) (k + 1) with
    | error e =>
     rw [hq] at ih
     obtain ⟨he, x, j, hj, ih⟩ := ih
     refine ⟨he, .mk 5 (tk l k).text 0 [x], j, hj, ?_⟩
     rw [un_v]
     unfold inB at *
     rw [ref03_In_one.eq]
     rcases c1' with c | ⟨c, c2⟩
     ·simp only [his, hgot, c, ho, hp, ih, hw, hd, if_pos r, Int.toNat_natCast, tok_g hk, tkv_0, tkv_1, tkv_2, tkv_3, lz, lx, if_true, if_false]
     ·simp only [his, hgot, c, c2, ho, hp, ih, hw, hd, if_pos r, Int.toNat_natCast, tok_g hk, tkv_0, tkv_1, tkv_2, tkv_3, lz, lx, if_true, if_false]
    | ok q =>
     obtain ⟨x, j⟩ := q
     rw [hq] at ih
     simp only at ih ⊢
     rw [un_v]
     unfold inB at *
     rw [ref03_In_one.eq]
     rcases c1' with c | ⟨c, c2⟩
     ·simp only [his, hgot, c, ho, hp, ih, hw, hd, if_pos r, Int.toNat_natCast, tok_g hk, tkv_0, tkv_1, tkv_2, tkv_3, lz, lx, if_true, if_false]
     ·simp only [his, hgot, c, c2, ho, hp, ih, hw, hd, if_pos r, Int.toNat_natCast, tok_g hk, tkv_0, tkv_1, tkv_2, tkv_3, lz, lx, if_true, if_false]
 rw [if_neg c1]
 have c45 : isT (tk l k) [45] = false := by simpa using fun h => c1 (.inl h)
 have c33 : isT (tk l k) [33] = false := by simpa using fun h => c1 (.inr h)
 clear c1
 by_cases c40 : isT (tk l k) [40] = true
 ·rw [if_pos c40]
  have hk1 := hl.isT hk c40
  have ih := expr_3 hl hn hk1 (d + 1) (fun h => far.tight (k + 1) (by omega) hk1 1 (d + 1) (by omega) h)
  unfold wantR
  unfold In3 at ih ⊢
  cases hq : partR l (d + 1) (k + 1) (tightW l 1 (d + 1) (k + 1)) with
  | error e =>
   rw [hq] at ih
   obtain ⟨he, x, j, hj, ih⟩ := ih
   have hwt := want_3 hn hj [41] e.2 e.1
   simp only [if_neg he] at hwt
   refine ⟨he, x, j, hj, ?_⟩
   unfold inB at *
   rw [ref03_In_one.eq]
   simp only [his, hgot, c45, c33, c40, ih, hwt, hw, hd, if_pos r, Int.toNat_natCast, tok_g hk, tkv_0, tkv_1, tkv_2, tkv_3, lz, lx, if_true, if_false]
  | ok p =>
   obtain ⟨x, j⟩ := p
   rw [hq] at ih
   have hj := (tight_goes hl hk1 (partR_ok hq)).2
   have hwt := want_3 hn hj [41] 0 0
   simp only [if_true] at hwt
   simp only at ih ⊢
   by_cases c41 : isT (tk l j) [41] = true
   ·rw [if_pos c41] at hwt ⊢
    simp only [id]
    unfold inB at *
    rw [ref03_In_one.eq]
    simp only [his, hgot, c45, c33, c40, ih, hwt, hw, hd, if_pos r, Int.toNat_natCast, tok_g hk, tkv_0, tkv_1, tkv_2, tkv_3, lz, lx, if_true, if_false]
   ·rw [if_neg c41] at hwt ⊢
    refine ⟨(by decide : (30 : Int) ≠ 0), x, j, hj, ?_⟩
    unfold inB at *
    rw [ref03_In_one.eq]
    simp only [his, hgot, c45, c33, c40, ih, hwt, hw, hd, if_pos r, Int.toNat_natCast, tok_g hk, tkv_0, tkv_1, tkv_2, tkv_3, lz, lx, if_true, if_false]
 rw [if_neg c40]
 have c40 : isT (tk l k) [40] = false := by simpa using c40
 by_cases ct : isT (tk l k) [116, 114, 117, 101] = true
 ·rw [if_pos ct]
  unfold In3
  simp only
  rw [leaf_v]
  unfold inB at *
  rw [ref03_In_one.eq]
  simp only [his, hgot, c45, c33, c40, ct, hw, hd, if_pos r, Int.toNat_natCast, tok_g hk, tkv_0, tkv_1, tkv_2, tkv_3, lz, lx, if_true, if_false]
 rw [if_neg ct]
 have ct : isT (tk l k) [116, 114, 117, 101] = false := by simpa using ct
 by_cases cf : isT (tk l k) [102, 97, 108, 115, 101] = true
 ·rw [if_pos cf]
  unfold In3
  simp only
  rw [leaf_v]
  unfold inB at *
  rw [ref03_In_one.eq]
  simp only [his, hgot, c45, c33, c40, ct, cf, hw, hd, if_pos r, Int.toNat_natCast, tok_g hk, tkv_0, tkv_1, tkv_2, tkv_3, lz, lx, if_true, if_false]
 rw [if_neg cf]
 have cf : isT (tk l k) [102, 97, 108, 115, 101] = false := by simpa using cf
 by_cases c2 : (tk l k).kind = 2
 ·rw [if_pos c2]
  have c2' : ((tk l k).kind == 2) = true := by simpa using c2
  unfold In3
  simp only
  rw [leaf_v]
  unfold inB at *
  rw [ref03_In_one.eq]
  simp only [his, hgot, c45, c33, c40, ct, cf, c2', hw, hd, if_pos r, Int.toNat_natCast, tok_g hk, tkv_0, tkv_1, tkv_2, tkv_3, lz, lx, if_true, if_false]
 rw [if_neg c2]
 have c2' : ((tk l k).kind == 2) = false := by simpa using c2
 have hwd := word_3 hn hk hl
 by_cases c3 : (tk l k).kind = 1
 ·rw [if_neg (by omega)]
  rw [if_pos c3] at hwd
  have hk1 := hl.next hk (by omega)
  have hg1 := got_3 hn hk1 [91] 0 0
  simp only [decide_true, Bool.true_and, true_and] at hg1
  by_cases c91 : isT (tk l (k + 1)) [91] = true
  ·rw [if_pos c91] at hg1 ⊢
   have hk2 := hl.isT hk1 c91
   have ih := expr_3 hl hn hk2 (d + 1) (fun h => far.tight (k + 2) (by omega) hk2 1 (d + 1) (by omega) h)
   unfold wantR
   unfold In3 at ih ⊢
   cases hq : partR l (d + 1) (k + 2) (tightW l 1 (d + 1) (k + 2)) with
   | error e =>
    have q2 : partR l (d + 1) (k + 1 + 1) (tightW l 1 (d + 1) (k + 1 + 1)) = _ := hq
    rw [q2] at ih
    obtain ⟨he, x, j, hj, ih⟩ := ih
    have hwt := want_3 hn hj [93] e.2 e.1
    simp only [if_neg he] at hwt
    refine ⟨he, .mk 4 (tk l k).text 0 [x], j, hj, ?_⟩
    rw [un_v]
    unfold inB at *
    rw [ref03_In_one.eq]
    simp only [his, hgot, c45, c33, c40, ct, cf, c2', c91, hwd, hg1, ih, hwt, hw, hd, if_pos r, Int.toNat_natCast, tok_g hk, tkv_0, tkv_1, tkv_2, tkv_3, lz, lx, if_true, if_false]
   | ok p =>
    obtain ⟨x, j⟩ := p
    have q2 : partR l (d + 1) (k + 1 + 1) (tightW l 1 (d + 1) (k + 1 + 1)) = _ := hq
    rw [q2] at ih
    have hj := (tight_goes hl hk2 (partR_ok hq)).2
    have hwt := want_3 hn hj [93] 0 0
    simp only [if_true] at hwt
    simp only at ih ⊢
    by_cases c93 : isT (tk l j) [93] = true
    ·rw [if_pos c93] at hwt ⊢
     simp only
     rw [un_v]
     unfold inB at *
     rw [ref03_In_one.eq]
     simp only [his, hgot, c45, c33, c40, ct, cf, c2', c91, hwd, hg1, ih, hwt, hw, hd, if_pos r, Int.toNat_natCast, tok_g hk, tkv_0, tkv_1, tkv_2, tkv_3, lz, lx, if_true, if_false]
    ·rw [if_neg c93] at hwt ⊢
     refine ⟨(by decide : (30 : Int) ≠ 0), .mk 4 (tk l k).text 0 [x], j, hj, ?_⟩
     rw [un_v]
     unfold inB at *
     rw [ref03_In_one.eq]
     simp only [his, hgot, c45, c33, c40, ct, cf, c2', c91, hwd, hg1, ih, hwt, hw, hd, if_pos r, Int.toNat_natCast, tok_g hk, tkv_0, tkv_1, tkv_2, tkv_3, lz, lx, if_true, if_false]
  ·rw [if_neg c91] at hg1 ⊢
   have c91' : isT (tk l (k + 1)) [91] = false := by simpa using c91
   unfold In3
   simp only
   rw [leaf_v]
   unfold inB at *
   rw [ref03_In_one.eq]
   simp only [his, hgot, c45, c33, c40, ct, cf, c2', c91', hwd, hg1, hw, hd, if_pos r, Int.toNat_natCast, tok_g hk, tkv_0, tkv_1, tkv_2, tkv_3, lz, lx, if_true, if_false]
 ·rw [if_pos c3]
  rw [if_neg c3] at hwd
  refine ⟨(by decide : (30 : Int) ≠ 0), .mk 3 [] 0 [], k, hk, ?_⟩
  have hg1 := got_3 hn hk [91] 30 (tk l k).at_
  simp only [show ¬ (30 : Int) = 0 by decide, decide_false, Bool.false_and, false_and, if_false] at hg1
  rw [leaf_v]
  unfold inB at *
  rw [ref03_In_one.eq]
  simp only [his, hgot, c45, c33, c40, ct, cf, c2', hwd, hg1, hw, hd, if_pos r, Int.toNat_natCast, tok_g hk, tkv_0, tkv_1, tkv_2, tkv_3, lz, lx, if_true, if_false]
end
end Go.Proofs.YtmhnmelaodhemaaGreatDoor
namespace Go.Proofs.YtmhnmelaodhemaaGreatDoor
open Go Go.Proofs.Ab Go.Proofs.Px
attribute [local congr] bind_h asInt_h asBool_h asStr_h asSl_h asSlR_h asAgg_h asTup_h asIface_h asCells_h onRet_h onOut_h cond_h
section
variable {l : List Tk} (hl : Ended l) (hn : l.length <= 100000)
include hl hn
noncomputable def loop3 (l : List Tk) (n d p : Int) (x : Ex) (k : Nat) (e a : Int) : Option Res := ref03_In_tight.L1_1_1_0_0 n d p (l.map Tk.v) (k : Int) e a x.kind (B x.name) x.num (x.l.map Ex.v)
theorem loop_3b {k : Nat} (n d p : Int) (x : Ex) {e a : Int} (he : e ≠ 0) : loop3 l n d p x k e a = some ⟨.ret (.agg x.v), [inB l k e a], none⟩ := by
 have : (e == 0) = false := by simpa using he
 unfold loop3 inB
 rw [ref03_In_tight.L1_1_1_0_0_eq, this, cond_false, Ex.v_list]
theorem loop_3 {k : Nat} (hk : k < l.length) (n d p : Int) (h0 : 0 <= d) (h6 : d <= 60) (x : Ex) (far : Far3 l k)
  (hnext : ∀ k', k < k' -> k' < l.length -> ∀ p x, In3 l (loopW l n d p x k') (loop3 l n d p x k' 0 0)) : In3 l (loopW l n d p x k) (loop3 l n d p x k 0 0) := by
 have r := row_in hk
 have hT := ref03_Tight_is (tk l k).text
 rw [tightN_level] at hT
 have hw := wr1 (show k < 1099511627776 by omega)
 rw [loopW, dif_pos hk]
 have stop : loop3 l n d p x k 0 0 = (bif ((tk l k).kind == 4) then (bif (levelT (tk l k).text == 0) then some ⟨.ret (.agg x.v), [inB l k 0 0], none⟩ else bif decide (levelT (tk l k).text < n) then some ⟨.ret (.agg x.v), [inB l k 0 0], none⟩ else bif decide (levelT (tk l k).text > p) then some ⟨.ret (.agg x.v), [inB l k 0 0], none⟩ else loop3 l n d p x k 0 0) else some ⟨.ret (.agg x.v), [inB l k 0 0], none⟩) := by
  by_cases c4 : (tk l k).kind = 4
  ·have c4' : ((tk l k).kind == 4) = true := by simpa using c4
   rw [c4', cond_true]
   by_cases z : levelT (tk l k).text = 0
   ·have z' : (levelT (tk l k).text == 0) = true := by simpa using z
    rw [z', cond_true]
    unfold loop3 inB
    rw [ref03_In_tight.L1_1_1_0_0_eq]
    simp only [hT, c4', z', if_pos r, Int.toNat_natCast, tok_g hk, tkv_0, tkv_1, tkv_2, tkv_3, BEq.rfl, lz, lx, if_true, if_false]
   ·have z' : (levelT (tk l k).text == 0) = false := by simpa using z
    rw [z', cond_false]
    by_cases y : levelT (tk l k).text < n
    ·rw [decide_eq_true y, cond_true]
     unfold loop3 inB
     rw [ref03_In_tight.L1_1_1_0_0_eq]
     simp only [hT, c4', z', decide_eq_true y, if_pos r, Int.toNat_natCast, tok_g hk, tkv_0, tkv_1, tkv_2, tkv_3, BEq.rfl, lz, lx, if_true, if_false]
    ·rw [decide_eq_false y, cond_false]
     by_cases w : levelT (tk l k).text > p
     ·rw [decide_eq_true w, cond_true]
      unfold loop3 inB
      rw [ref03_In_tight.L1_1_1_0_0_eq]
      simp only [hT, c4', z', decide_eq_false y, decide_eq_true w, if_pos r, Int.toNat_natCast, tok_g hk, tkv_0, tkv_1, tkv_2, tkv_3, BEq.rfl, lz, lx, if_true, if_false]
     ·rw [decide_eq_false w, cond_false]
  ·have c4' : ((tk l k).kind == 4) = false := by simpa using c4
   rw [c4', cond_false]
   unfold loop3 inB
   rw [ref03_In_tight.L1_1_1_0_0_eq]
   simp only [c4', if_pos r, Int.toNat_natCast, tok_g hk, tkv_0, tkv_1, tkv_2, tkv_3, BEq.rfl, lz, lx, if_true, if_false]
 have hlv := level_le (tk l k).text
 by_cases c : signT (tk l k) = 0 ∨ signT (tk l k) < n ∨ p < signT (tk l k)
 ·rw [if_pos c]
  show loop3 l n d p x k 0 0 = _
  rw [stop]
  unfold signT at c
  by_cases c4 : (tk l k).kind = 4
  ·rw [if_pos c4] at c
   rw [show ((tk l k).kind == 4) = true by simpa using c4, cond_true]
   by_cases z : levelT (tk l k).text = 0
   ·rw [show (levelT (tk l k).text == 0) = true by simpa using z, cond_true]
   ·rw [show (levelT (tk l k).text == 0) = false by simpa using z, cond_false]
    by_cases y : levelT (tk l k).text < n
    ·rw [decide_eq_true y, cond_true]
    ·rw [decide_eq_false y, cond_false, decide_eq_true (by omega), cond_true]
  ·rw [show ((tk l k).kind == 4) = false by simpa using c4, cond_false]
 ·rw [if_neg c]
  clear stop
  have c4 : (tk l k).kind = 4 := by
   by_cases c4 : (tk l k).kind = 4
   ·exact c4
   ·exact absurd (.inl (by unfold signT; rw [if_neg c4])) c
  have hs : signT (tk l k) = levelT (tk l k).text := by unfold signT; rw [if_pos c4]
  rw [hs] at c ⊢
  have c4' : ((tk l k).kind == 4) = true := by simpa using c4
  have z' : (levelT (tk l k).text == 0) = false := by simpa using fun h => c (.inl h)
  have y' : decide (levelT (tk l k).text < n) = false := decide_eq_false fun h => c (.inr (.inl h))
  have w' : decide (levelT (tk l k).text > p) = false := decide_eq_false fun h => c (.inr (.inr h))
  have hk1 : k + 1 < l.length := hl.next hk (by omega)
  have ht := far.tight (k + 1) (by omega) hk1 (levelT (tk l k).text + 1) d h0 h6
  have hwt : IntKind.i64.wrap (levelT (tk l k).text + 1) = levelT (tk l k).text + 1 := wrap_in (by omega) (by omega)
  unfold In3 at ht
  cases hq : tightW l (levelT (tk l k).text + 1) d (k + 1) with
  | error e =>
   rw [hq] at ht
   obtain ⟨he, y, j, hj, ht⟩ := ht
   have h2 := fun p x => loop_3b (l := l) hl hn n d p x (k := j) (a := e.1) he
   refine ⟨he, .mk 6 (tk l k).text 0 [x, y], j, hj, ?_⟩
   unfold loop3 inB at *
   rw [ref03_In_tight.L1_1_1_0_0_eq]
   have h3 := h2 2 (.mk 6 (tk l k).text 0 [x, y])
   have h4 := h2 (levelT (tk l k).text) (.mk 6 (tk l k).text 0 [x, y])
   simp only [Ex.kind_mk, Ex.name_mk, Ex.num_mk, Ex.l_mk, List.map_cons, List.map_nil] at h3 h4
   simp only [hT, c4', z', y', w', hw, hwt, ht, if_pos r, Int.toNat_natCast, tok_g hk, tkv_0, tkv_1, tkv_2, tkv_3, BEq.rfl, lz, lx, if_true, if_false]
   cases levelT (tk l k).text == 3
   ·exact h4
   ·exact h3
  | ok q =>
   obtain ⟨y, j⟩ := q
   rw [hq] at ht
   have hj := tight_goes hl hk1 hq
   simp only at ht ⊢
   rw [dif_pos (show k < j by omega)]
   have h2 := fun p x => hnext j (by omega) hj.2 p x
   have e : loop3 l n d p x k 0 0 = loop3 l n d (if levelT (tk l k).text = 3 then 2 else levelT (tk l k).text) (.mk 6 (tk l k).text 0 [x, y]) j 0 0 := by
    unfold loop3 inB at *
    rw [ref03_In_tight.L1_1_1_0_0_eq]
    simp only [hT, c4', z', y', w', hw, hwt, ht, if_pos r, Int.toNat_natCast, tok_g hk, tkv_0, tkv_1, tkv_2, tkv_3, BEq.rfl, lz, lx, if_true, if_false]
    by_cases c3 : levelT (tk l k).text = 3
    ·rw [show (levelT (tk l k).text == 3) = true by simpa using c3, cond_true, if_pos c3]; rfl
    ·rw [show (levelT (tk l k).text == 3) = false by simpa using c3, cond_false, if_neg c3]; rfl
   rw [e]
   exact h2 _ _
theorem all_3 : ∀ m k : Nat, l.length - k <= m -> k < l.length ->
  (∀ d : Int, 0 <= d -> d <= 60 -> In3 l (oneW l d k) (den Sp ref03_In_one.id [.ref 0 0, .int .i64 d] [inB l k 0 0] none)) ∧
  (∀ n d : Int, 0 <= d -> d <= 60 -> In3 l (tightW l n d k) (den Sp ref03_In_tight.id [.ref 0 0, .int .i64 n, .int .i64 d] [inB l k 0 0] none)) ∧
  (∀ n d p : Int, 0 <= d -> d <= 60 -> ∀ x, In3 l (loopW l n d p x k) (loop3 l n d p x k 0 0)) := by
 intro m
 induction m with
 | zero => intro k h1 h2; omega
 | succ m ih =>
  intro k hm hk
  have far : Far3 l k := ⟨fun k' h1 h2 => (ih k' (by omega) h2).1, fun k' h1 h2 => (ih k' (by omega) h2).2.1⟩
  have one := fun d h0 h6 => one_3 hl hn hk d h0 h6 far
  refine ⟨one, fun n d h0 h6 => ?_, fun n d p h0 h6 x => loop_3 hl hn hk n d p h0 h6 x far fun k' h1 h2 p x => (ih k' (by omega) h2).2.2 n d p h0 h6 x⟩
  have h := one d h0 h6
  rw [tightW]
  unfold In3 at h
  cases hq : oneW l d k with
  | error e =>
   rw [hq] at h
   obtain ⟨he, x, j, hj, h⟩ := h
   have h2 := loop_3b (l := l) hl hn n d 5 x (k := j) (a := e.1) he
   refine ⟨he, x, j, hj, ?_⟩
   unfold loop3 inB at *
   rw [ref03_In_tight.eq]
   simp only [h, lz, lx, if_true, if_false]
   exact h2
  | ok q =>
   obtain ⟨x, j⟩ := q
   rw [hq] at h
   have hj := one_goes hl hk hq
   simp only at h ⊢
   rw [dif_pos ⟨hj.1, hk⟩]
   have e : den Sp ref03_In_tight.id [.ref 0 0, .int .i64 n, .int .i64 d] [inB l k 0 0] none = loop3 l n d 5 x j 0 0 := by
    unfold loop3 inB at *
    rw [ref03_In_tight.eq]
    simp only [h, lz, lx, if_true, if_false]
   rw [e]
   exact (ih j (by omega) hj.2).2.2 n d 5 h0 h6 x
theorem expr_3_is {k : Nat} (hk : k < l.length) (d : Int) (h0 : 0 <= d) : In3 l (partR l d k (tightW l 1 d k)) (den Sp ref03_In_expr.id [.ref 0 0, .int .i64 d] [inB l k 0 0] none) :=
 expr_3 hl hn hk d fun h => (all_3 hl hn _ k (Nat.le_refl _) hk).2.1 1 d h0 h
theorem ref03_ReadExpr_is (hr : den Sp ref02_Right.id [.sl .no T_api_Token (l.map Tk.v)] [] none = some ⟨.ret (.bool true), [], none⟩) : ReadsE ref03_ReadExpr.id l := by
 intro k hk
 have h := expr_3_is hl hn hk 1 (by decide)
 have k1 : decide ((k : Int) < 0) = false := decide_eq_false (by omega)
 have k2 : decide ((k : Int) >= (l.length : Int)) = false := decide_eq_false (by omega)
 unfold readE
 unfold In3 at h
 cases hq : partR l 1 k (tightW l 1 1 k) with
 | error e =>
  rw [hq] at h
  obtain ⟨he, x, j, hj, h⟩ := h
  have he' : (e.2 != 0) = true := by simpa using he
  unfold inB at *
  simp only [leaf_v]
  rw [ref03_ReadExpr.eq]
  simp only [hr, h, k1, k2, he', List.length_map, lz, lx, if_true, if_false]
 | ok q =>
  obtain ⟨x, j⟩ := q
  rw [hq] at h
  simp only at h ⊢
  unfold inB at *
  rw [ref03_ReadExpr.eq]
  simp only [hr, h, k1, k2, List.length_map, lz, lx, if_true, if_false]
end
end Go.Proofs.YtmhnmelaodhemaaGreatDoor
namespace Go.Proofs.YtmhnmelaodhemaaGreatDoor
open Go Go.Proofs.Ab
namespace ref12_Parse
noncomputable abbrev e (p : List Nat) := ev Sp (den Sp) id Tryz.f45.ntmps (cAt (bodyOf Tryz.f45) p)
noncomputable abbrev cn (n0 : List Nat) := canon Sp id n0
noncomputable abbrev K : K := kFin Sp (den Sp) (Sp.oo id) Tryz.f45 0
noncomputable def L1_1_1_1_1_0_0 (l0 : List (List V)) (i1 i2 i3 : Int) (l4 l5 l6 l7 l8 : List (List V)) : Option Res := LP (e [1, 1, 1, 1, 1, 0, 0, 0]) (cn [1002, 1023, 1009]) (kBlk 0 (kSeq (e [1, 1, 1, 1, 1, 1]) (K))) ([(2, (V.ref 1002 0)), (8, (V.ref 1023 0)), (9, (V.ref 1009 0))], ⟨[(1002, (Blk.cells T_parallaxref12_File [V.sl (Tok.row 0) T_api_Pair [], V.sl (Tok.row 1) T_api_Pair [], V.sl (Tok.row 2) T_parallaxref12_Keep [], V.sl (Tok.row 3) T_parallaxref12_Break [], V.sl (Tok.row 4) T_parallaxref12_Watch []] false)), (1023, (Blk.cells T_parallaxref12_in [V.sl .no T_api_Token l0, V.int .i64 i1, V.int .i64 i2, V.int .i64 i3] false)), (1009, (Blk.cells T_parallaxref12_File [V.sl (Tok.row 5) T_api_Pair l4, V.sl (Tok.row 6) T_api_Pair l5, V.sl (Tok.row 7) T_parallaxref12_Keep l6, V.sl (Tok.row 8) T_parallaxref12_Break l7, V.sl (Tok.row 9) T_parallaxref12_Watch l8] false))], [0, 1, 2, 3, 4, 5, 6, 7, 8, 9], [], [], none⟩)
theorem L1_1_1_1_1_0_0_eq (l0 : List (List V)) (i1 i2 i3 : Int) (l4 l5 l6 l7 l8 : List (List V)) : L1_1_1_1_1_0_0 l0 i1 i2 i3 l4 l5 l6 l7 l8 =
  (bif (i2 == (0 : Int)) then (if (((0 : Int) <= i1) ∧ (i1 < (l0.length : Int))) then (V.asInt (List.getD (List.getD l0 (Int.toNat i1) []) 0 V.undef) .i64 (fun n22 => bif (!(n22 == (0 : Int))) then (den Sp ref12_in_line.id [V.ref 0 0, V.agg [V.sl (Tok.row 0) T_api_Pair l4, V.sl (Tok.row 1) T_api_Pair l5, V.sl (Tok.row 2) T_parallaxref12_Keep l6, V.sl (Tok.row 3) T_parallaxref12_Break l7, V.sl (Tok.row 4) T_parallaxref12_Watch l8]] [Blk.cells T_parallaxref12_in [V.sl .no T_api_Token l0, V.int .i64 i1, V.int .i64 i2, V.int .i64 i3] false] none).bind (fun r24 => Blk.asCells (List.getD (Res.bl r24) 0 (Blk.cells T_n0 [] true)) T_parallaxref12_in 4 (fun rd25 => V.asSl (rd25 0) T_api_Token (fun es26 => V.asInt (rd25 1) .i64 (fun n27 => V.asInt (rd25 2) .i64 (fun n28 => V.asInt (rd25 3) .i64 (fun n29 => Res.onRet r24 (fun v30 => V.asAgg v30 5 (fun rd31 => V.asSlR (rd31 0) 0 T_api_Pair (fun es32 => V.asSlR (rd31 1) 1 T_api_Pair (fun es33 => V.asSlR (rd31 2) 2 T_parallaxref12_Keep (fun es34 => V.asSlR (rd31 3) 3 T_parallaxref12_Break (fun es35 => V.asSlR (rd31 4) 4 T_parallaxref12_Watch (fun es36 => L1_1_1_1_1_0_0 es26 n27 n28 n29 es32 es33 es34 es35 es36))))))))))))) else (bif (i2 != (0 : Int)) then (some ⟨Out.ret (V.tup [V.agg [V.sl .no T_api_Pair [], V.sl .no T_api_Pair [], V.sl .no T_parallaxref12_Keep [], V.sl .no T_parallaxref12_Break [], V.sl .no T_parallaxref12_Watch []], V.int .i64 i3, V.int .i64 i2]), [], none⟩) else (some ⟨Out.ret (V.tup [V.agg [V.sl .no T_api_Pair l4, V.sl .no T_api_Pair l5, V.sl .no T_parallaxref12_Keep l6, V.sl .no T_parallaxref12_Break l7, V.sl .no T_parallaxref12_Watch l8], V.int .i64 (0 : Int), V.int .i64 (0 : Int)]), [], none⟩)))) else none) else (bif (i2 != (0 : Int)) then (some ⟨Out.ret (V.tup [V.agg [V.sl .no T_api_Pair [], V.sl .no T_api_Pair [], V.sl .no T_parallaxref12_Keep [], V.sl .no T_parallaxref12_Break [], V.sl .no T_parallaxref12_Watch []], V.int .i64 i3, V.int .i64 i2]), [], none⟩) else (some ⟨Out.ret (V.tup [V.agg [V.sl .no T_api_Pair l4, V.sl .no T_api_Pair l5, V.sl .no T_parallaxref12_Keep l6, V.sl .no T_parallaxref12_Break l7, V.sl .no T_parallaxref12_Watch l8], V.int .i64 (0 : Int), V.int .i64 (0 : Int)]), [], none⟩))) := (LP_eq ..).trans (by kernel_rfl)
theorem eq (a0 : ByteArray) : den Sp id [V.str a0] [] none =
  (den Sp ref02_Scan.id [V.str a0] [] none).bind (fun r3 => Res.onRet r3 (fun v4 => V.asTup v4 3 (fun rd5 => V.asSl (rd5 0) T_api_Token (fun es6 => V.asInt (rd5 1) .i64 (fun n7 => V.asInt (rd5 2) .i64 (fun n8 => bif (n8 != (0 : Int)) then (some ⟨Out.ret (V.tup [V.agg [V.sl .no T_api_Pair [], V.sl .no T_api_Pair [], V.sl .no T_parallaxref12_Keep [], V.sl .no T_parallaxref12_Break [], V.sl .no T_parallaxref12_Watch []], V.int .i64 n7, V.int .i64 n8]), [], none⟩) else (L1_1_1_1_1_0_0 es6 (0 : Int) (0 : Int) (0 : Int) [] [] [] [] []))))))) := (den_eq ..).trans (by kernel_rfl)
end ref12_Parse
namespace ref12_Places
noncomputable abbrev e (p : List Nat) := ev Sp (den Sp) id Tryz.f20.ntmps (cAt (bodyOf Tryz.f20) p)
noncomputable abbrev cn (n0 : List Nat) := canon Sp id n0
noncomputable abbrev K : K := kFin Sp (den Sp) (Sp.oo id) Tryz.f20 0
noncomputable def L1_1_1_1_1_1_0_1_0 (l0 l1 l2 l3 l4 l5 : List (List V)) : Option Res := LP (e [1, 1, 1, 1, 1, 1, 0, 1, 0, 0]) (cn [1002, 1004, 1005]) (kBlk 0 (kSeq (e [1, 1, 1, 1, 1, 1, 1]) (K))) ([(2, (V.ref 1002 0)), (4, (V.ref 1004 0)), (8, (V.sl .no T_string [[V.str (ByteArray.mk #[112, 97, 105, 114])], [V.str (ByteArray.mk #[115, 97, 109, 101])], [V.str (ByteArray.mk #[107, 101, 101, 112])], [V.str (ByteArray.mk #[98, 114, 101, 97, 107])], [V.str (ByteArray.mk #[119, 97, 116, 99, 104])]])), (9, (V.sl .no T_api_Token l0)), (12, (V.int .i64 (0 : Int))), (13, V.undef)], ⟨[(1002, (Blk.vec T_L_int [[V.sl Tok.nil T_int []], [V.sl Tok.nil T_int []], [V.sl Tok.nil T_int []], [V.sl Tok.nil T_int []], [V.sl Tok.nil T_int []]] false)), (1004, (Blk.cells T_A5_L_int [V.sl (Tok.row 0) T_int [], V.sl (Tok.row 1) T_int [], V.sl (Tok.row 2) T_int [], V.sl (Tok.row 3) T_int [], V.sl (Tok.row 4) T_int []] false)), (1005, (Blk.cells T_parallaxref12_File [V.sl .no T_api_Pair l1, V.sl .no T_api_Pair l2, V.sl .no T_parallaxref12_Keep l3, V.sl .no T_parallaxref12_Break l4, V.sl .no T_parallaxref12_Watch l5] false))], [0, 1, 2, 3, 4], [], [], none⟩)
noncomputable def L1_1_1_1_1_1_0_1_0_0_1_0_0_1_1_0 (l0 : List (List V)) (i1 i2 : Int) (l3 l4 l5 l6 l7 l8 l9 l10 l11 l12 : List (List V)) : Option Res := LP (e [1, 1, 1, 1, 1, 1, 0, 1, 0, 0, 1, 0, 0, 1, 1, 0, 0]) (cn [1002, 1004, 1005]) (kBlk 2 (kBlk 1 (kSeq (e [1, 1, 1, 1, 1, 1, 0, 1, 0, 0, 1, 1]) (kLp (e [1, 1, 1, 1, 1, 1, 0, 1, 0, 0]) (cn [1002, 1004, 1005]) (kBlk 0 (kSeq (e [1, 1, 1, 1, 1, 1, 1]) (K))))))) ([(2, (V.ref 1002 0)), (4, (V.ref 1004 0)), (8, (V.sl .no T_string [[V.str (ByteArray.mk #[112, 97, 105, 114])], [V.str (ByteArray.mk #[115, 97, 109, 101])], [V.str (ByteArray.mk #[107, 101, 101, 112])], [V.str (ByteArray.mk #[98, 114, 101, 97, 107])], [V.str (ByteArray.mk #[119, 97, 116, 99, 104])]])), (9, (V.sl .no T_api_Token l0)), (12, (V.int .i64 i1)), (13, (V.int .i64 i2))], ⟨[(1002, (Blk.vec T_L_int [[V.sl Tok.nil T_int []], [V.sl Tok.nil T_int []], [V.sl Tok.nil T_int []], [V.sl Tok.nil T_int []], [V.sl Tok.nil T_int []]] false)), (1004, (Blk.cells T_A5_L_int [V.sl (Tok.row 0) T_int l3, V.sl (Tok.row 1) T_int l4, V.sl (Tok.row 2) T_int l5, V.sl (Tok.row 3) T_int l6, V.sl (Tok.row 4) T_int l7] false)), (1005, (Blk.cells T_parallaxref12_File [V.sl .no T_api_Pair l8, V.sl .no T_api_Pair l9, V.sl .no T_parallaxref12_Keep l10, V.sl .no T_parallaxref12_Break l11, V.sl .no T_parallaxref12_Watch l12] false))], [0, 1, 2, 3, 4], [], [], none⟩)
noncomputable def L1_1_1_1_1_1_0_1_0v1 (l0 : List (List V)) (i1 i2 : Int) (l3 l4 l5 l6 l7 l8 l9 l10 l11 l12 : List (List V)) : Option Res := LP (e [1, 1, 1, 1, 1, 1, 0, 1, 0, 0]) (cn [1002, 1004, 1005]) (kBlk 0 (kSeq (e [1, 1, 1, 1, 1, 1, 1]) (K))) ([(2, (V.ref 1002 0)), (4, (V.ref 1004 0)), (8, (V.sl .no T_string [[V.str (ByteArray.mk #[112, 97, 105, 114])], [V.str (ByteArray.mk #[115, 97, 109, 101])], [V.str (ByteArray.mk #[107, 101, 101, 112])], [V.str (ByteArray.mk #[98, 114, 101, 97, 107])], [V.str (ByteArray.mk #[119, 97, 116, 99, 104])]])), (9, (V.sl .no T_api_Token l0)), (12, (V.int .i64 i1)), (13, (V.int .i64 i2))], ⟨[(1002, (Blk.vec T_L_int [[V.sl Tok.nil T_int []], [V.sl Tok.nil T_int []], [V.sl Tok.nil T_int []], [V.sl Tok.nil T_int []], [V.sl Tok.nil T_int []]] false)), (1004, (Blk.cells T_A5_L_int [V.sl (Tok.row 0) T_int l3, V.sl (Tok.row 1) T_int l4, V.sl (Tok.row 2) T_int l5, V.sl (Tok.row 3) T_int l6, V.sl (Tok.row 4) T_int l7] false)), (1005, (Blk.cells T_parallaxref12_File [V.sl .no T_api_Pair l8, V.sl .no T_api_Pair l9, V.sl .no T_parallaxref12_Keep l10, V.sl .no T_parallaxref12_Break l11, V.sl .no T_parallaxref12_Watch l12] false))], [0, 1, 2, 3, 4], [], [], none⟩)
theorem L1_1_1_1_1_1_0_1_0_eq (l0 l1 l2 l3 l4 l5 : List (List V)) : L1_1_1_1_1_1_0_1_0 l0 l1 l2 l3 l4 l5 =
  (bif (decide ((0 : Int) < (l0.length : Int))) then (L1_1_1_1_1_1_0_1_0_0_1_0_0_1_1_0 l0 (0 : Int) (0 : Int) [] [] [] [] [] l1 l2 l3 l4 l5) else (some ⟨Out.ret (V.tup [V.agg [V.sl .no T_int [], V.sl .no T_int [], V.sl .no T_int [], V.sl .no T_int [], V.sl .no T_int []], V.bool true]), [], none⟩)) := (LP_eq ..).trans (by kernel_rfl)
theorem L1_1_1_1_1_1_0_1_0_0_1_0_0_1_1_0_eq (l0 : List (List V)) (i1 i2 : Int) (l3 l4 l5 l6 l7 l8 l9 l10 l11 l12 : List (List V)) : L1_1_1_1_1_1_0_1_0_0_1_0_0_1_1_0 l0 i1 i2 l3 l4 l5 l6 l7 l8 l9 l10 l11 l12 =
  (bif (decide (i2 < (5 : Int))) then (if (((0 : Int) <= i1) ∧ (i1 < (l0.length : Int))) then (V.asInt (List.getD (List.getD l0 (Int.toNat i1) []) 0 V.undef) .i64 (fun n49 => bif (n49 == (1 : Int)) then (if (((0 : Int) <= i1) ∧ (i1 < (l0.length : Int))) then (V.asStr (List.getD (List.getD l0 (Int.toNat i1) []) 1 V.undef) (fun s50 => if (((0 : Int) <= i2) ∧ (i2 < ((5 : Nat) : Int))) then (V.asStr (List.getD (List.getD [[V.str (ByteArray.mk #[112, 97, 105, 114])], [V.str (ByteArray.mk #[115, 97, 109, 101])], [V.str (ByteArray.mk #[107, 101, 101, 112])], [V.str (ByteArray.mk #[98, 114, 101, 97, 107])], [V.str (ByteArray.mk #[119, 97, 116, 99, 104])]] (Int.toNat i2) []) 0 V.undef) (fun s51 => bif (decide (s50 = s51)) then (if (i2 = ((4 : Nat) : Int)) then (if (((0 : Int) <= i1) ∧ (i1 < (l0.length : Int))) then (V.asInt (List.getD (List.getD l0 (Int.toNat i1) []) 3 V.undef) .i64 (fun n53 => if (((List.length l7) + (List.length [[V.int .i64 n53]])) <= most) then (if (i2 = ((4 : Nat) : Int)) then (L1_1_1_1_1_1_0_1_0_0_1_0_0_1_1_0 l0 i1 (IntKind.wrap .i64 (i2 + (1 : Int))) l3 l4 l5 l6 (l7 ++ [[V.int .i64 n53]]) l8 l9 l10 l11 l12) else (if (i2 = ((3 : Nat) : Int)) then none else (if (i2 = ((2 : Nat) : Int)) then none else (if (i2 = ((1 : Nat) : Int)) then none else (if (i2 = ((0 : Nat) : Int)) then none else none))))) else none)) else none) else (if (i2 = ((3 : Nat) : Int)) then (if (((0 : Int) <= i1) ∧ (i1 < (l0.length : Int))) then (V.asInt (List.getD (List.getD l0 (Int.toNat i1) []) 3 V.undef) .i64 (fun n53 => if (((List.length l6) + (List.length [[V.int .i64 n53]])) <= most) then (if (i2 = ((4 : Nat) : Int)) then none else (if (i2 = ((3 : Nat) : Int)) then (L1_1_1_1_1_1_0_1_0_0_1_0_0_1_1_0 l0 i1 (IntKind.wrap .i64 (i2 + (1 : Int))) l3 l4 l5 (l6 ++ [[V.int .i64 n53]]) l7 l8 l9 l10 l11 l12) else (if (i2 = ((2 : Nat) : Int)) then none else (if (i2 = ((1 : Nat) : Int)) then none else (if (i2 = ((0 : Nat) : Int)) then none else none))))) else none)) else none) else (if (i2 = ((2 : Nat) : Int)) then (if (((0 : Int) <= i1) ∧ (i1 < (l0.length : Int))) then (V.asInt (List.getD (List.getD l0 (Int.toNat i1) []) 3 V.undef) .i64 (fun n53 => if (((List.length l5) + (List.length [[V.int .i64 n53]])) <= most) then (if (i2 = ((4 : Nat) : Int)) then none else (if (i2 = ((3 : Nat) : Int)) then none else (if (i2 = ((2 : Nat) : Int)) then (L1_1_1_1_1_1_0_1_0_0_1_0_0_1_1_0 l0 i1 (IntKind.wrap .i64 (i2 + (1 : Int))) l3 l4 (l5 ++ [[V.int .i64 n53]]) l6 l7 l8 l9 l10 l11 l12) else (if (i2 = ((1 : Nat) : Int)) then none else (if (i2 = ((0 : Nat) : Int)) then none else none))))) else none)) else none) else (if (i2 = ((1 : Nat) : Int)) then (if (((0 : Int) <= i1) ∧ (i1 < (l0.length : Int))) then (V.asInt (List.getD (List.getD l0 (Int.toNat i1) []) 3 V.undef) .i64 (fun n53 => if (((List.length l4) + (List.length [[V.int .i64 n53]])) <= most) then (if (i2 = ((4 : Nat) : Int)) then none else (if (i2 = ((3 : Nat) : Int)) then none else (if (i2 = ((2 : Nat) : Int)) then none else (if (i2 = ((1 : Nat) : Int)) then (L1_1_1_1_1_1_0_1_0_0_1_0_0_1_1_0 l0 i1 (IntKind.wrap .i64 (i2 + (1 : Int))) l3 (l4 ++ [[V.int .i64 n53]]) l5 l6 l7 l8 l9 l10 l11 l12) else (if (i2 = ((0 : Nat) : Int)) then none else none))))) else none)) else none) else (if (i2 = ((0 : Nat) : Int)) then (if (((0 : Int) <= i1) ∧ (i1 < (l0.length : Int))) then (V.asInt (List.getD (List.getD l0 (Int.toNat i1) []) 3 V.undef) .i64 (fun n53 => if (((List.length l3) + (List.length [[V.int .i64 n53]])) <= most) then (if (i2 = ((4 : Nat) : Int)) then none else (if (i2 = ((3 : Nat) : Int)) then none else (if (i2 = ((2 : Nat) : Int)) then none else (if (i2 = ((1 : Nat) : Int)) then none else (if (i2 = ((0 : Nat) : Int)) then (L1_1_1_1_1_1_0_1_0_0_1_0_0_1_1_0 l0 i1 (IntKind.wrap .i64 (i2 + (1 : Int))) (l3 ++ [[V.int .i64 n53]]) l4 l5 l6 l7 l8 l9 l10 l11 l12) else none))))) else none)) else none) else none))))) else (L1_1_1_1_1_1_0_1_0_0_1_0_0_1_1_0 l0 i1 (IntKind.wrap .i64 (i2 + (1 : Int))) l3 l4 l5 l6 l7 l8 l9 l10 l11 l12))) else none)) else none) else (L1_1_1_1_1_1_0_1_0_0_1_0_0_1_1_0 l0 i1 (IntKind.wrap .i64 (i2 + (1 : Int))) l3 l4 l5 l6 l7 l8 l9 l10 l11 l12))) else none) else (L1_1_1_1_1_1_0_1_0v1 l0 (IntKind.wrap .i64 (i1 + (1 : Int))) i2 l3 l4 l5 l6 l7 l8 l9 l10 l11 l12)) := (LP_eq ..).trans (by kernel_rfl)
theorem L1_1_1_1_1_1_0_1_0v1_eq (l0 : List (List V)) (i1 i2 : Int) (l3 l4 l5 l6 l7 l8 l9 l10 l11 l12 : List (List V)) : L1_1_1_1_1_1_0_1_0v1 l0 i1 i2 l3 l4 l5 l6 l7 l8 l9 l10 l11 l12 =
  (bif (decide (i1 < (l0.length : Int))) then (bif (decide (i1 > (0 : Int))) then (if (((0 : Int) <= (IntKind.wrap .i64 (i1 - (1 : Int)))) ∧ ((IntKind.wrap .i64 (i1 - (1 : Int))) < (l0.length : Int))) then (V.asStr (List.getD (List.getD l0 (Int.toNat (IntKind.wrap .i64 (i1 - (1 : Int)))) []) 1 V.undef) (fun s64 => bif (!(decide (s64 = (ByteArray.mk #[59])))) then (L1_1_1_1_1_1_0_1_0v1 l0 (IntKind.wrap .i64 (i1 + (1 : Int))) i2 l3 l4 l5 l6 l7 l8 l9 l10 l11 l12) else (L1_1_1_1_1_1_0_1_0_0_1_0_0_1_1_0 l0 i1 (0 : Int) l3 l4 l5 l6 l7 l8 l9 l10 l11 l12))) else none) else (L1_1_1_1_1_1_0_1_0_0_1_0_0_1_1_0 l0 i1 (0 : Int) l3 l4 l5 l6 l7 l8 l9 l10 l11 l12)) else (some ⟨Out.ret (V.tup [V.agg [V.sl .no T_int l3, V.sl .no T_int l4, V.sl .no T_int l5, V.sl .no T_int l6, V.sl .no T_int l7], V.bool true]), [], none⟩)) := (LP_eq ..).trans (by kernel_rfl)
theorem eq (a0 : ByteArray) : den Sp id [V.str a0] [] none =
  (den Sp ref12_Parse.id [V.str a0] [] none).bind (fun r4 => Res.onRet r4 (fun v5 => V.asTup v5 3 (fun rd6 => V.asAgg (rd6 0) 5 (fun rd7 => V.asSl (rd7 0) T_api_Pair (fun es8 => V.asSl (rd7 1) T_api_Pair (fun es9 => V.asSl (rd7 2) T_parallaxref12_Keep (fun es10 => V.asSl (rd7 3) T_parallaxref12_Break (fun es11 => V.asSl (rd7 4) T_parallaxref12_Watch (fun es12 => V.asInt (rd6 1) .i64 (fun n13 => V.asInt (rd6 2) .i64 (fun n14 => bif (n14 != (0 : Int)) then (some ⟨Out.ret (V.tup [V.agg [V.sl .no T_int [], V.sl .no T_int [], V.sl .no T_int [], V.sl .no T_int [], V.sl .no T_int []], V.bool false]), [], none⟩) else (den Sp ref02_Scan.id [V.str a0] [] none).bind (fun r18 => Res.onRet r18 (fun v19 => V.asTup v19 3 (fun rd20 => V.asSl (rd20 0) T_api_Token (fun es21 => V.asInt (rd20 1) .i64 (fun n22 => V.asInt (rd20 2) .i64 (fun n23 => L1_1_1_1_1_1_0_1_0 es21 es8 es9 es10 es11 es12))))))))))))))))) := (den_eq ..).trans (by kernel_rfl)
end ref12_Places
namespace decl_Places
noncomputable abbrev e (p : List Nat) := ev Sp (den Sp) id Tryz.f19.ntmps (cAt (bodyOf Tryz.f19) p)
noncomputable abbrev cn (n0 : List Nat) := canon Sp id n0
noncomputable abbrev K : K := kFin Sp (den Sp) (Sp.oo id) Tryz.f19 0
noncomputable def L1_1_1_1_1_0_1_0 (b0 : Bool) (l1 : List (List V)) (i2 i3 : Int) (l4 l5 l6 l7 l8 l9 l10 l11 l12 l13 : List (List V)) : Option Res := LP (e [1, 1, 1, 1, 1, 0, 1, 0, 0]) (cn [1002, 1004, 1005]) (kBlk 0 (kSeq (e [1, 1, 1, 1, 1, 1]) (K))) ([(2, (V.ref 1002 0)), (4, (V.ref 1004 0)), (11, (V.bool b0)), (30, (V.sl .no T_api_Token l1)), (31, (V.int .i64 i2)), (32, (V.int .i64 i3))], ⟨[(1002, (Blk.vec T_L_int [[V.sl Tok.nil T_int []], [V.sl Tok.nil T_int []], [V.sl Tok.nil T_int []], [V.sl Tok.nil T_int []], [V.sl Tok.nil T_int []]] false)), (1004, (Blk.cells T_A5_L_int [V.sl (Tok.row 0) T_int l4, V.sl (Tok.row 1) T_int l5, V.sl (Tok.row 2) T_int l6, V.sl (Tok.row 3) T_int l7, V.sl (Tok.row 4) T_int l8] false)), (1005, (Blk.cells T_decl_File [V.sl .no T_api_Pair l9, V.sl .no T_api_Pair l10, V.sl .no T_decl_Keep l11, V.sl .no T_decl_Break l12, V.sl .no T_decl_Watch l13] false))], [0, 1, 2, 3, 4], [], [], none⟩)
theorem L1_1_1_1_1_0_1_0_eq (b0 : Bool) (l1 : List (List V)) (i2 i3 : Int) (l4 l5 l6 l7 l8 l9 l10 l11 l12 l13 : List (List V)) : L1_1_1_1_1_0_1_0 b0 l1 i2 i3 l4 l5 l6 l7 l8 l9 l10 l11 l12 l13 =
  (bif (decide (i3 < i2)) then (if (((0 : Int) <= i3) ∧ (i3 < (l1.length : Int))) then (V.asInt (List.getD (List.getD l1 (Int.toNat i3) []) 0 V.undef) .i64 (fun n41 => V.asStr (List.getD (List.getD l1 (Int.toNat i3) []) 1 V.undef) (fun s42 => V.asInt (List.getD (List.getD l1 (Int.toNat i3) []) 2 V.undef) .i64 (fun n43 => V.asInt (List.getD (List.getD l1 (Int.toNat i3) []) 3 V.undef) .i64 (fun n44 => bif b0 then (bif (n41 != (0 : Int)) then (den Sp decl_kind.id [V.str s42] [] none).bind (fun r47 => Res.onRet r47 (fun v48 => V.asInt v48 .i64 (fun n49 => if (n49 = ((4 : Nat) : Int)) then (if (((List.length l8) + (List.length [[V.int .i64 n44]])) <= most) then (if (n49 = ((4 : Nat) : Int)) then (bif (n41 == (4 : Int)) then (L1_1_1_1_1_0_1_0 (decide (s42 = (ByteArray.mk #[59]))) l1 i2 (IntKind.wrap .i64 (i3 + (1 : Int))) l4 l5 l6 l7 (l8 ++ [[V.int .i64 n44]]) l9 l10 l11 l12 l13) else (L1_1_1_1_1_0_1_0 false l1 i2 (IntKind.wrap .i64 (i3 + (1 : Int))) l4 l5 l6 l7 (l8 ++ [[V.int .i64 n44]]) l9 l10 l11 l12 l13)) else (if (n49 = ((3 : Nat) : Int)) then (bif (n41 == (4 : Int)) then none else none) else (if (n49 = ((2 : Nat) : Int)) then (bif (n41 == (4 : Int)) then none else none) else (if (n49 = ((1 : Nat) : Int)) then (bif (n41 == (4 : Int)) then none else none) else (if (n49 = ((0 : Nat) : Int)) then (bif (n41 == (4 : Int)) then none else none) else none))))) else none) else (if (n49 = ((3 : Nat) : Int)) then (if (((List.length l7) + (List.length [[V.int .i64 n44]])) <= most) then (if (n49 = ((4 : Nat) : Int)) then (bif (n41 == (4 : Int)) then none else none) else (if (n49 = ((3 : Nat) : Int)) then (bif (n41 == (4 : Int)) then (L1_1_1_1_1_0_1_0 (decide (s42 = (ByteArray.mk #[59]))) l1 i2 (IntKind.wrap .i64 (i3 + (1 : Int))) l4 l5 l6 (l7 ++ [[V.int .i64 n44]]) l8 l9 l10 l11 l12 l13) else (L1_1_1_1_1_0_1_0 false l1 i2 (IntKind.wrap .i64 (i3 + (1 : Int))) l4 l5 l6 (l7 ++ [[V.int .i64 n44]]) l8 l9 l10 l11 l12 l13)) else (if (n49 = ((2 : Nat) : Int)) then (bif (n41 == (4 : Int)) then none else none) else (if (n49 = ((1 : Nat) : Int)) then (bif (n41 == (4 : Int)) then none else none) else (if (n49 = ((0 : Nat) : Int)) then (bif (n41 == (4 : Int)) then none else none) else none))))) else none) else (if (n49 = ((2 : Nat) : Int)) then (if (((List.length l6) + (List.length [[V.int .i64 n44]])) <= most) then (if (n49 = ((4 : Nat) : Int)) then (bif (n41 == (4 : Int)) then none else none) else (if (n49 = ((3 : Nat) : Int)) then (bif (n41 == (4 : Int)) then none else none) else (if (n49 = ((2 : Nat) : Int)) then (bif (n41 == (4 : Int)) then (L1_1_1_1_1_0_1_0 (decide (s42 = (ByteArray.mk #[59]))) l1 i2 (IntKind.wrap .i64 (i3 + (1 : Int))) l4 l5 (l6 ++ [[V.int .i64 n44]]) l7 l8 l9 l10 l11 l12 l13) else (L1_1_1_1_1_0_1_0 false l1 i2 (IntKind.wrap .i64 (i3 + (1 : Int))) l4 l5 (l6 ++ [[V.int .i64 n44]]) l7 l8 l9 l10 l11 l12 l13)) else (if (n49 = ((1 : Nat) : Int)) then (bif (n41 == (4 : Int)) then none else none) else (if (n49 = ((0 : Nat) : Int)) then (bif (n41 == (4 : Int)) then none else none) else none))))) else none) else (if (n49 = ((1 : Nat) : Int)) then (if (((List.length l5) + (List.length [[V.int .i64 n44]])) <= most) then (if (n49 = ((4 : Nat) : Int)) then (bif (n41 == (4 : Int)) then none else none) else (if (n49 = ((3 : Nat) : Int)) then (bif (n41 == (4 : Int)) then none else none) else (if (n49 = ((2 : Nat) : Int)) then (bif (n41 == (4 : Int)) then none else none) else (if (n49 = ((1 : Nat) : Int)) then (bif (n41 == (4 : Int)) then (L1_1_1_1_1_0_1_0 (decide (s42 = (ByteArray.mk #[59]))) l1 i2 (IntKind.wrap .i64 (i3 + (1 : Int))) l4 (l5 ++ [[V.int .i64 n44]]) l6 l7 l8 l9 l10 l11 l12 l13) else (L1_1_1_1_1_0_1_0 false l1 i2 (IntKind.wrap .i64 (i3 + (1 : Int))) l4 (l5 ++ [[V.int .i64 n44]]) l6 l7 l8 l9 l10 l11 l12 l13)) else (if (n49 = ((0 : Nat) : Int)) then (bif (n41 == (4 : Int)) then none else none) else none))))) else none) else (if (n49 = ((0 : Nat) : Int)) then (if (((List.length l4) + (List.length [[V.int .i64 n44]])) <= most) then (if (n49 = ((4 : Nat) : Int)) then (bif (n41 == (4 : Int)) then none else none) else (if (n49 = ((3 : Nat) : Int)) then (bif (n41 == (4 : Int)) then none else none) else (if (n49 = ((2 : Nat) : Int)) then (bif (n41 == (4 : Int)) then none else none) else (if (n49 = ((1 : Nat) : Int)) then (bif (n41 == (4 : Int)) then none else none) else (if (n49 = ((0 : Nat) : Int)) then (bif (n41 == (4 : Int)) then (L1_1_1_1_1_0_1_0 (decide (s42 = (ByteArray.mk #[59]))) l1 i2 (IntKind.wrap .i64 (i3 + (1 : Int))) (l4 ++ [[V.int .i64 n44]]) l5 l6 l7 l8 l9 l10 l11 l12 l13) else (L1_1_1_1_1_0_1_0 false l1 i2 (IntKind.wrap .i64 (i3 + (1 : Int))) (l4 ++ [[V.int .i64 n44]]) l5 l6 l7 l8 l9 l10 l11 l12 l13)) else none))))) else none) else none))))))) else (bif (n41 == (4 : Int)) then (L1_1_1_1_1_0_1_0 (decide (s42 = (ByteArray.mk #[59]))) l1 i2 (IntKind.wrap .i64 (i3 + (1 : Int))) l4 l5 l6 l7 l8 l9 l10 l11 l12 l13) else (L1_1_1_1_1_0_1_0 false l1 i2 (IntKind.wrap .i64 (i3 + (1 : Int))) l4 l5 l6 l7 l8 l9 l10 l11 l12 l13))) else (bif (n41 == (4 : Int)) then (L1_1_1_1_1_0_1_0 (decide (s42 = (ByteArray.mk #[59]))) l1 i2 (IntKind.wrap .i64 (i3 + (1 : Int))) l4 l5 l6 l7 l8 l9 l10 l11 l12 l13) else (L1_1_1_1_1_0_1_0 false l1 i2 (IntKind.wrap .i64 (i3 + (1 : Int))) l4 l5 l6 l7 l8 l9 l10 l11 l12 l13))))))) else none) else (some ⟨Out.ret (V.tup [V.agg [V.sl .no T_int l4, V.sl .no T_int l5, V.sl .no T_int l6, V.sl .no T_int l7, V.sl .no T_int l8], V.bool true]), [], none⟩)) := (LP_eq ..).trans (by kernel_rfl)
theorem eq (a0 : ByteArray) : den Sp id [V.str a0] [] none =
  (den Sp decl_Parse.id [V.str a0] [] none).bind (fun r4 => Res.onRet r4 (fun v5 => V.asTup v5 3 (fun rd6 => V.asAgg (rd6 0) 5 (fun rd7 => V.asSl (rd7 0) T_api_Pair (fun es8 => V.asSl (rd7 1) T_api_Pair (fun es9 => V.asSl (rd7 2) T_decl_Keep (fun es10 => V.asSl (rd7 3) T_decl_Break (fun es11 => V.asSl (rd7 4) T_decl_Watch (fun es12 => V.asInt (rd6 1) .i64 (fun n13 => V.asInt (rd6 2) .i64 (fun n14 => bif (n14 != (0 : Int)) then (some ⟨Out.ret (V.tup [V.agg [V.sl .no T_int [], V.sl .no T_int [], V.sl .no T_int [], V.sl .no T_int [], V.sl .no T_int []], V.bool false]), [], none⟩) else (den Sp lex_Scan.id [V.str a0] [] none).bind (fun r17 => Res.onRet r17 (fun v18 => V.asTup v18 3 (fun rd19 => V.asSl (rd19 0) T_api_Token (fun es20 => V.asInt (rd19 1) .i64 (fun n21 => V.asInt (rd19 2) .i64 (fun n22 => L1_1_1_1_1_0_1_0 true es20 (es20.length : Int) (0 : Int) [] [] [] [] [] es8 es9 es10 es11 es12))))))))))))))))) := (den_eq ..).trans (by kernel_rfl)
end decl_Places
namespace decl_kind
theorem eq (a0 : ByteArray) : den Sp id [V.str a0] [] none =
  (bif (decide (a0 = (ByteArray.mk #[112, 97, 105, 114]))) then (some ⟨Out.ret (V.int .i64 (0 : Int)), [], none⟩) else (bif (decide (a0 = (ByteArray.mk #[115, 97, 109, 101]))) then (some ⟨Out.ret (V.int .i64 (1 : Int)), [], none⟩) else (bif (decide (a0 = (ByteArray.mk #[107, 101, 101, 112]))) then (some ⟨Out.ret (V.int .i64 (2 : Int)), [], none⟩) else (bif (decide (a0 = (ByteArray.mk #[98, 114, 101, 97, 107]))) then (some ⟨Out.ret (V.int .i64 (3 : Int)), [], none⟩) else (some ⟨Out.ret (V.int .i64 (4 : Int)), [], none⟩))))) := (den_eq ..).trans (by kernel_rfl)
end decl_kind
end Go.Proofs.YtmhnmelaodhemaaGreatDoor
namespace Go.Proofs.YtmhnmelaodhemaaGreatDoor
open Go Go.Proofs.Ab Go.Proofs.Px
attribute [local congr] bind_h asInt_h asBool_h asStr_h asSl_h asSlR_h asAgg_h asTup_h asIface_h asCells_h onRet_h onOut_h cond_h
def Fl.rv (f : Fl) : List V := [.sl .no T_api_Pair (f.pairs.map Pai.v), .sl .no T_api_Pair (f.sames.map Pai.v), .sl .no T_parallaxref12_Keep (f.keeps.map Kp.v), .sl .no T_parallaxref12_Break (f.breaks.map Bk.v), .sl .no T_parallaxref12_Watch (f.watches.map Wt.v)]
def parseV12 (r : Fl × Int × Int) : Option Res := some ⟨.ret (.tup [.agg r.1.rv, .int .i64 r.2.1, .int .i64 r.2.2]), [], none⟩
def Few (f : Fl) (n : Nat) : Prop := f.pairs.length <= n ∧ f.sames.length <= n ∧ f.keeps.length <= n ∧ f.breaks.length <= n ∧ f.watches.length <= n
theorem lineR_few {l : List Tk} {k : Nat} {f g : Fl} {j n : Nat} (h : lineR l f k = .ok (g, j)) (hf : Few f n) : Few g (n + 1) := by
 unfold lineR at h
 obtain ⟨f1, k1, h1, h⟩ := andR_ok h
 obtain ⟨_, k2, h2, h⟩ := andR_ok h
 cases h
 have full : ∀ {α : Type} {n most : Nat} {r : Rf α} {x : α × Nat}, fullR l n most k r = .ok x -> r = .ok x := fun h => by
  unfold fullR at h
  split at h
  ·cases h
  ·exact h
 obtain ⟨a1, a2, a3, a4, a5⟩ := hf
 unfold itemR at h1
 split at h1
 ·obtain ⟨_, _, _, h1⟩ := andR_ok (full h1)
  obtain ⟨_, _, _, h1⟩ := andR_ok h1
  cases h1
  refine ⟨?_, ?_, ?_, ?_, ?_⟩ <;> (try simp only [List.length_append, List.length_singleton]) <;> omega
 split at h1
 ·obtain ⟨_, _, _, h1⟩ := andR_ok (full h1)
  cases h1
  refine ⟨?_, ?_, ?_, ?_, ?_⟩ <;> (try simp only [List.length_append, List.length_singleton]) <;> omega
 split at h1
 ·obtain ⟨_, _, _, h1⟩ := andR_ok (full h1)
  cases h1
  refine ⟨?_, ?_, ?_, ?_, ?_⟩ <;> (try simp only [List.length_append, List.length_singleton]) <;> omega
 split at h1
 ·obtain ⟨_, _, _, h1⟩ := andR_ok (full h1)
  cases h1
  refine ⟨?_, ?_, ?_, ?_, ?_⟩ <;> (try simp only [List.length_append, List.length_singleton]) <;> omega
 split at h1
 ·obtain ⟨_, _, _, h1⟩ := andR_ok (full h1)
  cases h1
  refine ⟨?_, ?_, ?_, ?_, ?_⟩ <;> (try simp only [List.length_append, List.length_singleton]) <;> omega
 ·cases h1
theorem file_12 {l : List Tk} (hl : Ended l) (hn : l.length <= 100000) (hE : ReadsE ref03_ReadExpr.id l) : ∀ (n k : Nat) (f : Fl) (a : Int), k < l.length -> l.length - k < n -> Few f k ->
  ref12_Parse.L1_1_1_1_1_0_0 (l.map Tk.v) (k : Int) 0 a (f.pairs.map Pai.v) (f.sames.map Pai.v) (f.keeps.map Kp.v) (f.breaks.map Bk.v) (f.watches.map Wt.v) = parseV12 (toldF (fileR l n f k))
 | 0, k, f, a, _, h, _ => by omega
 | n + 1, k, f, a, hk, h, hf => by
  have r := row_in hk
  rw [fileR]
  unfold parseV12 toldF
  by_cases c : (tk l k).kind = 0
  ·have c' : (!((tk l k).kind == 0)) = false := by simpa using c
   rw [if_pos c]
   unfold Fl.rv
   rw [ref12_Parse.L1_1_1_1_1_0_0_eq]
   simp only [show ((0 : Int) == 0) = true from rfl, show ((0 : Int) != 0) = false from rfl, if_pos r, Int.toNat_natCast, tok_g hk, tkv_0, tkv_1, tkv_2, tkv_3, c', lz, lx, if_true, if_false]
  ·have c' : (!((tk l k).kind == 0)) = true := by simpa using c
   rw [if_neg c]
   obtain ⟨b1, b2, b3, b4, b5⟩ := hf
   have hd := line_12 hl hn (s := ⟨k, 0, a⟩) hE hk f (by omega) (by omega) (by omega) (by omega) (by omega)
   have ht := line_tel hl hn (s := ⟨k, 0, a⟩) hk rfl f
   simp only at ht
   cases hq : lineR l f k with
   | error e =>
    rw [hq] at ht
    obtain ⟨h1, h2, h3⟩ := ht
    have e1 : (e.2 == 0) = false := by simpa using h1
    have e2 : (e.2 != 0) = true := by simpa using h1
    generalize lineS l ⟨k, 0, a⟩ f = q at *
    obtain ⟨⟨k2, e0, a0⟩, g⟩ := q
    simp only at h2 h3
    subst h2 h3
    simp only
    unfold Fl.rv emptyF
    unfold in12 at hd
    have hd' := hd
    unfold Fl.ow at hd'
    rw [ref12_Parse.L1_1_1_1_1_0_0_eq]
    simp only [show ((0 : Int) == 0) = true from rfl, if_pos r, Int.toNat_natCast, tok_g hk, tkv_0, tkv_1, tkv_2, tkv_3, c', hd', lz, lx, if_true, if_false, asAgg_5]
    rw [ref12_Parse.L1_1_1_1_1_0_0_eq]
    simp only [e1, e2, List.map_nil, lz, lx, if_true, if_false]
   | ok q =>
    obtain ⟨g, j⟩ := q
    rw [hq] at ht
    obtain ⟨h1, h2⟩ := ht
    have s := lineR_step hl hn hk hq
    have hg := lineR_few hq ⟨b1, b2, b3, b4, b5⟩
    have ih := file_12 hl hn hE n j g a s.end_ (by have := s.lt; omega) (by
     obtain ⟨a1, a2, a3, a4, a5⟩ := hg
     have := s.lt
     exact ⟨by omega, by omega, by omega, by omega, by omega⟩)
    rw [h1, h2] at hd
    simp only at hd ⊢
    refine Eq.trans ?_ ih
    unfold Fl.ow in12 at hd
    rw [ref12_Parse.L1_1_1_1_1_0_0_eq]
    simp only [show ((0 : Int) == 0) = true from rfl, if_pos r, Int.toNat_natCast, tok_g hk, tkv_0, tkv_1, tkv_2, tkv_3, c', hd, lz, lx, if_true, if_false, asAgg_5]
theorem ref12_Parse_is (s : List UInt8) (hs : s.length <= 3000) : den Sp ref12_Parse.id [.str (B s)] [] none = parseV12 (parseF s) := by
 have h1 := ref02_Scan_is s (by omega)
 unfold scanV at h1
 unfold parseF
 by_cases c : (scan s).2.2 = 0
 ·obtain ⟨g1, g2, g3, g4, g5⟩ := scan_ended (by omega) c
  have hr := ref02_Right_is (scan s).1 (by omega) g4
  rw [g5] at hr
  have hE := ref03_ReadExpr_is g1 (by omega) hr
  have hf := file_12 g1 (by omega) hE ((scan s).1.length + 1) 0 emptyF 0 g3 (by omega) ⟨by simp [emptyF], by simp [emptyF], by simp [emptyF], by simp [emptyF], by simp [emptyF]⟩
  have c' : ((scan s).2.2 != 0) = false := by simpa using c
  rw [if_neg (fun h => h c), <- hf]
  unfold emptyF
  rw [ref12_Parse.eq]
  simp only [h1, c', asTup_3, List.map_nil, Int.natCast_zero, lz, lx, if_true, if_false, lb]
 ·have c' : ((scan s).2.2 != 0) = true := by simpa using c
  rw [if_pos c]
  unfold parseV12 Fl.rv emptyF
  rw [ref12_Parse.eq]
  simp only [h1, c', asTup_3, List.map_nil, lz, lx, if_true, if_false, lb]
def iv (xs : List Int) : List (List V) := xs.map fun x => [.int .i64 x]
theorem iv_len (xs : List Int) : (iv xs).length = xs.length := List.length_map ..
theorem iv_app (xs : List Int) (x : Int) : iv xs ++ [[.int .i64 x]] = iv (xs ++ [x]) := by unfold iv; rw [List.map_append]; rfl
structure P5 where
 p0 : List Int
 p1 : List Int
 p2 : List Int
 p3 : List Int
 p4 : List Int
def P5.add (o : P5) (k : Nat) (a : Int) : P5 := match k with
 | 0 => { o with p0 := o.p0 ++ [a] }
 | 1 => { o with p1 := o.p1 ++ [a] }
 | 2 => { o with p2 := o.p2 ++ [a] }
 | 3 => { o with p3 := o.p3 ++ [a] }
 | _ => { o with p4 := o.p4 ++ [a] }
structure P5.few (o : P5) (n : Nat) : Prop where
 a0 : o.p0.length <= n
 a1 : o.p1.length <= n
 a2 : o.p2.length <= n
 a3 : o.p3.length <= n
 a4 : o.p4.length <= n
theorem P5.few.few_add {o : P5} {n : Nat} (h : o.few n) (k : Nat) (a : Int) : (o.add k a).few (n + 1) := by
 obtain ⟨a0, a1, a2, a3, a4⟩ := h
 unfold P5.add
 split <;> refine ⟨?_, ?_, ?_, ?_, ?_⟩ <;> (try simp only [List.length_append, List.length_singleton]) <;> omega
theorem P5.few.few_more {o : P5} {n : Nat} (h : o.few n) : o.few (n + 1) := by
 obtain ⟨a0, a1, a2, a3, a4⟩ := h
 exact ⟨by omega, by omega, by omega, by omega, by omega⟩
def P5.v (o : P5) : List V := [.sl .no T_int (iv o.p0), .sl .no T_int (iv o.p1), .sl .no T_int (iv o.p2), .sl .no T_int (iv o.p3), .sl .no T_int (iv o.p4)]
def kindN (s : List UInt8) : Nat := if s = [112, 97, 105, 114] then 0 else if s = [115, 97, 109, 101] then 1 else if s = [107, 101, 101, 112] then 2 else if s = [98, 114, 101, 97, 107] then 3 else 4
def plGo : List Tk -> Bool -> P5 -> P5
 | [], _, o => o
 | t :: r, b, o => plGo r (isS t [59]) (if b = true ∧ t.kind ≠ 0 then o.add (kindN t.text) t.at_ else o)
def placesV (r : P5 × Bool) : Option Res := some ⟨.ret (.tup [.agg r.1.v, .bool r.2]), [], none⟩
def noP : P5 := ⟨[], [], [], [], []⟩
def placesF (s : List UInt8) : P5 × Bool := if (parseF s).2.2 ≠ 0 then (noP, false) else (plGo (scan s).1 true noP, true)
theorem M5 {o : P5} {n : Nat} (h : o.few n) (hn : n <= 100000) (xs : List Int) (hx : xs = o.p0 ∨ xs = o.p1 ∨ xs = o.p2 ∨ xs = o.p3 ∨ xs = o.p4) (x : List V) (a b : Option Res) : (if (iv xs).length + List.length [x] <= most then a else b) = a := by
 obtain ⟨a0, a1, a2, a3, a4⟩ := h
 refine if_pos ?_
 rw [iv_len]
 show _ + 1 <= 1099511627776
 rcases hx with rfl | rfl | rfl | rfl | rfl <;> omega
theorem kind_is (t : List UInt8) : den Sp decl_kind.id [.str (B t)] [] none = some ⟨.ret (.int .i64 (kindN t : Int)), [], none⟩ := by
 rw [decl_kind.eq]
 simp only [mk_B, B_dec]
 unfold kindN
 by_cases c0 : t = [112, 97, 105, 114]
 ·simp [c0]
 by_cases c1 : t = [115, 97, 109, 101]
 ·simp [c1]
 by_cases c2 : t = [107, 101, 101, 112]
 ·simp [c2]
 by_cases c3 : t = [98, 114, 101, 97, 107]
 ·simp [c3]
 simp [c0, c1, c2, c3]
theorem kindN_lt (t : List UInt8) : kindN t = 0 ∨ kindN t = 1 ∨ kindN t = 2 ∨ kindN t = 3 ∨ kindN t = 4 := by
 unfold kindN
 split
 ·simp
 split
 ·simp
 split
 ·simp
 split <;> simp
theorem decl_places_loop {l : List Tk} (hn : l.length <= 100000) (a b c d e : List (List V)) : ∀ k, k <= l.length -> ∀ (o : P5) (f : Bool), o.few k ->
  decl_Places.L1_1_1_1_1_0_1_0 f (l.map Tk.v) (l.length : Int) (k : Int) (iv o.p0) (iv o.p1) (iv o.p2) (iv o.p3) (iv o.p4) a b c d e = placesV (plGo (l.drop k) f o, true) := by
 refine down (fun o f hf => ?_) fun k hk ih o f hf => ?_
 ·rw [decl_Places.L1_1_1_1_1_0_1_0_eq, decide_eq_false (Int.lt_irrefl _), cond_false, List.drop_length]; rfl
 ·have r := row_in hk
  have lt : decide ((k : Int) < (l.length : Int)) = true := decide_eq_true (by omega)
  have w := wr1 (show k < 1099511627776 by omega)
  have hd : l.drop k = tk l k :: l.drop (k + 1) := by
   rw [List.drop_eq_getElem_cons hk]
   unfold tk
   rw [List.getD_eq_getElem?_getD, List.getElem?_eq_getElem hk]; rfl
  have hkd := kind_is (tk l k).text
  rw [hd, plGo]
  have S : (bif (tk l k).kind == 4 then decide (B (tk l k).text = B [59]) else false) = isS (tk l k) [59] := by
   rw [B_dec]; unfold isS
   by_cases c : (tk l k).kind = 4 <;> simp [c]
  have fin : ∀ (o : P5), o.few (k + 1) -> (bif (tk l k).kind == 4 then decl_Places.L1_1_1_1_1_0_1_0 (decide (B (tk l k).text = B [59])) (l.map Tk.v) (l.length : Int) ((k + 1 : Nat) : Int) (iv o.p0) (iv o.p1) (iv o.p2) (iv o.p3) (iv o.p4) a b c d e else decl_Places.L1_1_1_1_1_0_1_0 false (l.map Tk.v) (l.length : Int) ((k + 1 : Nat) : Int) (iv o.p0) (iv o.p1) (iv o.p2) (iv o.p3) (iv o.p4) a b c d e) = placesV (plGo (l.drop (k + 1)) (isS (tk l k) [59]) o, true) := fun o ho => by
   rw [<- S]
   cases (tk l k).kind == 4
   ·exact ih o false ho
   ·exact ih o _ ho
  cases f with
  | false =>
   rw [if_neg (by simp)]
   rw [decl_Places.L1_1_1_1_1_0_1_0_eq]
   simp only [lt, w, if_pos r, Int.toNat_natCast, tok_g hk, tkv_0, tkv_1, tkv_2, tkv_3, lz, lx, if_true, if_false]
   exact fin o hf.few_more
  | true =>
   by_cases c0 : (tk l k).kind = 0
   ·rw [if_neg (by simp [c0])]
    have c0' : ((tk l k).kind != 0) = false := by simpa using c0
    rw [decl_Places.L1_1_1_1_1_0_1_0_eq]
    simp only [lt, w, c0', if_pos r, Int.toNat_natCast, tok_g hk, tkv_0, tkv_1, tkv_2, tkv_3, lz, lx, if_true, if_false]
    exact fin o hf.few_more
   ·rw [if_pos ⟨rfl, c0⟩]
    have c0' : ((tk l k).kind != 0) = true := by simpa using c0
    have ap := fun xs : List Int => iv_app xs (tk l k).at_
    have m := fun xs hx x a b => M5 hf (by omega) xs hx x a b
    have fin := fin _ (hf.few_add (kindN (tk l k).text) (tk l k).at_)
    rcases kindN_lt (tk l k).text with q | q | q | q | q
    ·rw [q] at fin hkd ⊢
     unfold P5.add at fin ⊢
     simp only at fin
     rw [decl_Places.L1_1_1_1_1_0_1_0_eq]
     simp only [lt, w, c0', hkd, if_pos r, Int.toNat_natCast, tok_g hk, tkv_0, tkv_1, tkv_2, tkv_3, ap, m o.p0 (by simp), lz, lx, if_true, if_false, Int.cast_ofNat_Int, Int.natCast_zero, Int.natCast_one, ↓reduceIte, Int.reduceEq, Int.zero_ne_one, Int.one_ne_zero]
     exact fin
    ·rw [q] at fin hkd ⊢
     unfold P5.add at fin ⊢
     simp only at fin
     rw [decl_Places.L1_1_1_1_1_0_1_0_eq]
     simp only [lt, w, c0', hkd, if_pos r, Int.toNat_natCast, tok_g hk, tkv_0, tkv_1, tkv_2, tkv_3, ap, m o.p1 (by simp), lz, lx, if_true, if_false, Int.cast_ofNat_Int, Int.natCast_zero, Int.natCast_one, ↓reduceIte, Int.reduceEq, Int.zero_ne_one, Int.one_ne_zero]
     exact fin
    ·rw [q] at fin hkd ⊢
     unfold P5.add at fin ⊢
     simp only at fin
     rw [decl_Places.L1_1_1_1_1_0_1_0_eq]
     simp only [lt, w, c0', hkd, if_pos r, Int.toNat_natCast, tok_g hk, tkv_0, tkv_1, tkv_2, tkv_3, ap, m o.p2 (by simp), lz, lx, if_true, if_false, Int.cast_ofNat_Int, Int.natCast_zero, Int.natCast_one, ↓reduceIte, Int.reduceEq, Int.zero_ne_one, Int.one_ne_zero]
     exact fin
    ·rw [q] at fin hkd ⊢
     unfold P5.add at fin ⊢
     simp only at fin
     rw [decl_Places.L1_1_1_1_1_0_1_0_eq]
     simp only [lt, w, c0', hkd, if_pos r, Int.toNat_natCast, tok_g hk, tkv_0, tkv_1, tkv_2, tkv_3, ap, m o.p3 (by simp), lz, lx, if_true, if_false, Int.cast_ofNat_Int, Int.natCast_zero, Int.natCast_one, ↓reduceIte, Int.reduceEq, Int.zero_ne_one, Int.one_ne_zero]
     exact fin
    ·rw [q] at fin hkd ⊢
     unfold P5.add at fin ⊢
     simp only at fin
     rw [decl_Places.L1_1_1_1_1_0_1_0_eq]
     simp only [lt, w, c0', hkd, if_pos r, Int.toNat_natCast, tok_g hk, tkv_0, tkv_1, tkv_2, tkv_3, ap, m o.p4 (by simp), lz, lx, if_true, if_false, Int.cast_ofNat_Int, Int.natCast_zero, Int.natCast_one, ↓reduceIte, Int.reduceEq, Int.zero_ne_one, Int.one_ne_zero]
     exact fin
theorem in12_0n {l : List Tk} (hn : l.length <= 100000) {i : Nat} (hi : i < l.length) (o : P5) (hf : o.few (i + 1)) (x : Int) (hx : x = 0) (a b c d e : List (List V)) (h : isW (tk l i) [112, 97, 105, 114] = false) :
  ref12_Places.L1_1_1_1_1_1_0_1_0_0_1_0_0_1_1_0 (l.map Tk.v) (i : Int) x (iv o.p0) (iv o.p1) (iv o.p2) (iv o.p3) (iv o.p4) a b c d e = ref12_Places.L1_1_1_1_1_1_0_1_0_0_1_0_0_1_1_0 (l.map Tk.v) (i : Int) (x + 1) (iv o.p0) (iv o.p1) (iv o.p2) (iv o.p3) (iv o.p4) a b c d e := by
 subst hx
 have r := row_in hi
 have w1 : IntKind.i64.wrap ((0 : Int) + 1) = 0 + 1 := wrap_in (by decide) (by decide)
 have lt : decide ((0 : Int) < 5) = true := by decide
 have lt2 : (0 : Int) <= 0 ∧ (0 : Int) < ((5 : Nat) : Int) := by decide
 have lt3 : (0 : Int) <= 0 ∧ (0 : Int) < 5 := by decide
 have ap := iv_app o.p0 (tk l i).at_
 have m := fun x a b => M5 (show o.few 100000 from ⟨by have := hf.a0; omega, by have := hf.a1; omega, by have := hf.a2; omega, by have := hf.a3; omega, by have := hf.a4; omega⟩) (by omega) o.p0 (by simp) x a b
 by_cases c : (tk l i).kind = 1
 ·have hk : ((tk l i).kind == 1) = true := by simpa using c
  have ht : decide (B (tk l i).text = B [112, 97, 105, 114]) = false := by
   rw [B_dec]
   unfold isW at h
   rw [c] at h
   simpa using h
  rw [ref12_Places.L1_1_1_1_1_1_0_1_0_0_1_0_0_1_1_0_eq]
  simp only [lt, if_pos lt2, if_pos lt3, if_pos r, Int.toNat_natCast, tok_g hi, tkv_0, tkv_1, tkv_2, tkv_3, hk, ht, w1, lz, lx, if_true, if_false, show Int.toNat 0 = 0 from rfl]
 ·have hk : ((tk l i).kind == 1) = false := by simpa using c
  rw [ref12_Places.L1_1_1_1_1_1_0_1_0_0_1_0_0_1_1_0_eq]
  simp only [lt, if_pos r, Int.toNat_natCast, tok_g hi, tkv_0, tkv_1, tkv_2, tkv_3, hk, w1, lz, lx, if_true, if_false]
theorem in12_0y {l : List Tk} (hn : l.length <= 100000) {i : Nat} (hi : i < l.length) (o : P5) (hf : o.few (i + 1)) (x : Int) (hx : x = 0) (a b c d e : List (List V)) (h : isW (tk l i) [112, 97, 105, 114] = true) :
  ref12_Places.L1_1_1_1_1_1_0_1_0_0_1_0_0_1_1_0 (l.map Tk.v) (i : Int) x (iv o.p0) (iv o.p1) (iv o.p2) (iv o.p3) (iv o.p4) a b c d e = ref12_Places.L1_1_1_1_1_1_0_1_0_0_1_0_0_1_1_0 (l.map Tk.v) (i : Int) (x + 1) (iv (o.p0 ++ [(tk l i).at_])) (iv o.p1) (iv o.p2) (iv o.p3) (iv o.p4) a b c d e := by
 subst hx
 have r := row_in hi
 have w1 : IntKind.i64.wrap ((0 : Int) + 1) = 0 + 1 := wrap_in (by decide) (by decide)
 have lt : decide ((0 : Int) < 5) = true := by decide
 have lt2 : (0 : Int) <= 0 ∧ (0 : Int) < ((5 : Nat) : Int) := by decide
 have lt3 : (0 : Int) <= 0 ∧ (0 : Int) < 5 := by decide
 have ap := iv_app o.p0 (tk l i).at_
 have m := fun x a b => M5 (show o.few 100000 from ⟨by have := hf.a0; omega, by have := hf.a1; omega, by have := hf.a2; omega, by have := hf.a3; omega, by have := hf.a4; omega⟩) (by omega) o.p0 (by simp) x a b
 have hk : ((tk l i).kind == 1) = true := by simpa using (isW_kind h).1
 have ht : decide (B (tk l i).text = B [112, 97, 105, 114]) = true := by rw [B_dec]; simpa using (isW_kind h).2
 rw [ref12_Places.L1_1_1_1_1_1_0_1_0_0_1_0_0_1_1_0_eq]
 simp only [lt, if_pos lt2, if_pos lt3, if_pos r, Int.toNat_natCast, tok_g hi, tkv_0, tkv_1, tkv_2, tkv_3, hk, ht, m, ap, w1, lz, lx, if_true, if_false, show Int.toNat 0 = 0 from rfl, Int.cast_ofNat_Int, Int.natCast_zero, Int.natCast_one, ↓reduceIte, Int.reduceEq, Int.zero_ne_one, Int.one_ne_zero]
theorem in12_1n {l : List Tk} (hn : l.length <= 100000) {i : Nat} (hi : i < l.length) (o : P5) (hf : o.few (i + 1)) (x : Int) (hx : x = 1) (a b c d e : List (List V)) (h : isW (tk l i) [115, 97, 109, 101] = false) :
  ref12_Places.L1_1_1_1_1_1_0_1_0_0_1_0_0_1_1_0 (l.map Tk.v) (i : Int) x (iv o.p0) (iv o.p1) (iv o.p2) (iv o.p3) (iv o.p4) a b c d e = ref12_Places.L1_1_1_1_1_1_0_1_0_0_1_0_0_1_1_0 (l.map Tk.v) (i : Int) (x + 1) (iv o.p0) (iv o.p1) (iv o.p2) (iv o.p3) (iv o.p4) a b c d e := by
 subst hx
 have r := row_in hi
 have w1 : IntKind.i64.wrap ((1 : Int) + 1) = 1 + 1 := wrap_in (by decide) (by decide)
 have lt : decide ((1 : Int) < 5) = true := by decide
 have lt2 : (0 : Int) <= 1 ∧ (1 : Int) < ((5 : Nat) : Int) := by decide
 have lt3 : (0 : Int) <= 1 ∧ (1 : Int) < 5 := by decide
 have ap := iv_app o.p1 (tk l i).at_
 have m := fun x a b => M5 (show o.few 100000 from ⟨by have := hf.a0; omega, by have := hf.a1; omega, by have := hf.a2; omega, by have := hf.a3; omega, by have := hf.a4; omega⟩) (by omega) o.p1 (by simp) x a b
 by_cases c : (tk l i).kind = 1
 ·have hk : ((tk l i).kind == 1) = true := by simpa using c
  have ht : decide (B (tk l i).text = B [115, 97, 109, 101]) = false := by
   rw [B_dec]
   unfold isW at h
   rw [c] at h
   simpa using h
  rw [ref12_Places.L1_1_1_1_1_1_0_1_0_0_1_0_0_1_1_0_eq]
  simp only [lt, if_pos lt2, if_pos lt3, if_pos r, Int.toNat_natCast, tok_g hi, tkv_0, tkv_1, tkv_2, tkv_3, hk, ht, w1, lz, lx, if_true, if_false, show Int.toNat 1 = 1 from rfl]
 ·have hk : ((tk l i).kind == 1) = false := by simpa using c
  rw [ref12_Places.L1_1_1_1_1_1_0_1_0_0_1_0_0_1_1_0_eq]
  simp only [lt, if_pos r, Int.toNat_natCast, tok_g hi, tkv_0, tkv_1, tkv_2, tkv_3, hk, w1, lz, lx, if_true, if_false]
theorem in12_1y {l : List Tk} (hn : l.length <= 100000) {i : Nat} (hi : i < l.length) (o : P5) (hf : o.few (i + 1)) (x : Int) (hx : x = 1) (a b c d e : List (List V)) (h : isW (tk l i) [115, 97, 109, 101] = true) :
  ref12_Places.L1_1_1_1_1_1_0_1_0_0_1_0_0_1_1_0 (l.map Tk.v) (i : Int) x (iv o.p0) (iv o.p1) (iv o.p2) (iv o.p3) (iv o.p4) a b c d e = ref12_Places.L1_1_1_1_1_1_0_1_0_0_1_0_0_1_1_0 (l.map Tk.v) (i : Int) (x + 1) (iv o.p0) (iv (o.p1 ++ [(tk l i).at_])) (iv o.p2) (iv o.p3) (iv o.p4) a b c d e := by
 subst hx
 have r := row_in hi
 have w1 : IntKind.i64.wrap ((1 : Int) + 1) = 1 + 1 := wrap_in (by decide) (by decide)
 have lt : decide ((1 : Int) < 5) = true := by decide
 have lt2 : (0 : Int) <= 1 ∧ (1 : Int) < ((5 : Nat) : Int) := by decide
 have lt3 : (0 : Int) <= 1 ∧ (1 : Int) < 5 := by decide
 have ap := iv_app o.p1 (tk l i).at_
 have m := fun x a b => M5 (show o.few 100000 from ⟨by have := hf.a0; omega, by have := hf.a1; omega, by have := hf.a2; omega, by have := hf.a3; omega, by have := hf.a4; omega⟩) (by omega) o.p1 (by simp) x a b
 have hk : ((tk l i).kind == 1) = true := by simpa using (isW_kind h).1
 have ht : decide (B (tk l i).text = B [115, 97, 109, 101]) = true := by rw [B_dec]; simpa using (isW_kind h).2
 rw [ref12_Places.L1_1_1_1_1_1_0_1_0_0_1_0_0_1_1_0_eq]
 simp only [lt, if_pos lt2, if_pos lt3, if_pos r, Int.toNat_natCast, tok_g hi, tkv_0, tkv_1, tkv_2, tkv_3, hk, ht, m, ap, w1, lz, lx, if_true, if_false, show Int.toNat 1 = 1 from rfl, Int.cast_ofNat_Int, Int.natCast_zero, Int.natCast_one, ↓reduceIte, Int.reduceEq, Int.zero_ne_one, Int.one_ne_zero]
theorem in12_2n {l : List Tk} (hn : l.length <= 100000) {i : Nat} (hi : i < l.length) (o : P5) (hf : o.few (i + 1)) (x : Int) (hx : x = 2) (a b c d e : List (List V)) (h : isW (tk l i) [107, 101, 101, 112] = false) :
  ref12_Places.L1_1_1_1_1_1_0_1_0_0_1_0_0_1_1_0 (l.map Tk.v) (i : Int) x (iv o.p0) (iv o.p1) (iv o.p2) (iv o.p3) (iv o.p4) a b c d e = ref12_Places.L1_1_1_1_1_1_0_1_0_0_1_0_0_1_1_0 (l.map Tk.v) (i : Int) (x + 1) (iv o.p0) (iv o.p1) (iv o.p2) (iv o.p3) (iv o.p4) a b c d e := by
 subst hx
 have r := row_in hi
 have w1 : IntKind.i64.wrap ((2 : Int) + 1) = 2 + 1 := wrap_in (by decide) (by decide)
 have lt : decide ((2 : Int) < 5) = true := by decide
 have lt2 : (0 : Int) <= 2 ∧ (2 : Int) < ((5 : Nat) : Int) := by decide
 have lt3 : (0 : Int) <= 2 ∧ (2 : Int) < 5 := by decide
 have ap := iv_app o.p2 (tk l i).at_
 have m := fun x a b => M5 (show o.few 100000 from ⟨by have := hf.a0; omega, by have := hf.a1; omega, by have := hf.a2; omega, by have := hf.a3; omega, by have := hf.a4; omega⟩) (by omega) o.p2 (by simp) x a b
 by_cases c : (tk l i).kind = 1
 ·have hk : ((tk l i).kind == 1) = true := by simpa using c
  have ht : decide (B (tk l i).text = B [107, 101, 101, 112]) = false := by
   rw [B_dec]
   unfold isW at h
   rw [c] at h
   simpa using h
  rw [ref12_Places.L1_1_1_1_1_1_0_1_0_0_1_0_0_1_1_0_eq]
  simp only [lt, if_pos lt2, if_pos lt3, if_pos r, Int.toNat_natCast, tok_g hi, tkv_0, tkv_1, tkv_2, tkv_3, hk, ht, w1, lz, lx, if_true, if_false, show Int.toNat 2 = 2 from rfl]
 ·have hk : ((tk l i).kind == 1) = false := by simpa using c
  rw [ref12_Places.L1_1_1_1_1_1_0_1_0_0_1_0_0_1_1_0_eq]
  simp only [lt, if_pos r, Int.toNat_natCast, tok_g hi, tkv_0, tkv_1, tkv_2, tkv_3, hk, w1, lz, lx, if_true, if_false]
theorem in12_2y {l : List Tk} (hn : l.length <= 100000) {i : Nat} (hi : i < l.length) (o : P5) (hf : o.few (i + 1)) (x : Int) (hx : x = 2) (a b c d e : List (List V)) (h : isW (tk l i) [107, 101, 101, 112] = true) :
  ref12_Places.L1_1_1_1_1_1_0_1_0_0_1_0_0_1_1_0 (l.map Tk.v) (i : Int) x (iv o.p0) (iv o.p1) (iv o.p2) (iv o.p3) (iv o.p4) a b c d e = ref12_Places.L1_1_1_1_1_1_0_1_0_0_1_0_0_1_1_0 (l.map Tk.v) (i : Int) (x + 1) (iv o.p0) (iv o.p1) (iv (o.p2 ++ [(tk l i).at_])) (iv o.p3) (iv o.p4) a b c d e := by
 subst hx
 have r := row_in hi
 have w1 : IntKind.i64.wrap ((2 : Int) + 1) = 2 + 1 := wrap_in (by decide) (by decide)
 have lt : decide ((2 : Int) < 5) = true := by decide
 have lt2 : (0 : Int) <= 2 ∧ (2 : Int) < ((5 : Nat) : Int) := by decide
 have lt3 : (0 : Int) <= 2 ∧ (2 : Int) < 5 := by decide
 have ap := iv_app o.p2 (tk l i).at_
 have m := fun x a b => M5 (show o.few 100000 from ⟨by have := hf.a0; omega, by have := hf.a1; omega, by have := hf.a2; omega, by have := hf.a3; omega, by have := hf.a4; omega⟩) (by omega) o.p2 (by simp) x a b
 have hk : ((tk l i).kind == 1) = true := by simpa using (isW_kind h).1
 have ht : decide (B (tk l i).text = B [107, 101, 101, 112]) = true := by rw [B_dec]; simpa using (isW_kind h).2
 rw [ref12_Places.L1_1_1_1_1_1_0_1_0_0_1_0_0_1_1_0_eq]
 simp only [lt, if_pos lt2, if_pos lt3, if_pos r, Int.toNat_natCast, tok_g hi, tkv_0, tkv_1, tkv_2, tkv_3, hk, ht, m, ap, w1, lz, lx, if_true, if_false, show Int.toNat 2 = 2 from rfl, Int.cast_ofNat_Int, Int.natCast_zero, Int.natCast_one, ↓reduceIte, Int.reduceEq, Int.zero_ne_one, Int.one_ne_zero]
theorem in12_3n {l : List Tk} (hn : l.length <= 100000) {i : Nat} (hi : i < l.length) (o : P5) (hf : o.few (i + 1)) (x : Int) (hx : x = 3) (a b c d e : List (List V)) (h : isW (tk l i) [98, 114, 101, 97, 107] = false) :
  ref12_Places.L1_1_1_1_1_1_0_1_0_0_1_0_0_1_1_0 (l.map Tk.v) (i : Int) x (iv o.p0) (iv o.p1) (iv o.p2) (iv o.p3) (iv o.p4) a b c d e = ref12_Places.L1_1_1_1_1_1_0_1_0_0_1_0_0_1_1_0 (l.map Tk.v) (i : Int) (x + 1) (iv o.p0) (iv o.p1) (iv o.p2) (iv o.p3) (iv o.p4) a b c d e := by
 subst hx
 have r := row_in hi
 have w1 : IntKind.i64.wrap ((3 : Int) + 1) = 3 + 1 := wrap_in (by decide) (by decide)
 have lt : decide ((3 : Int) < 5) = true := by decide
 have lt2 : (0 : Int) <= 3 ∧ (3 : Int) < ((5 : Nat) : Int) := by decide
 have lt3 : (0 : Int) <= 3 ∧ (3 : Int) < 5 := by decide
 have ap := iv_app o.p3 (tk l i).at_
 have m := fun x a b => M5 (show o.few 100000 from ⟨by have := hf.a0; omega, by have := hf.a1; omega, by have := hf.a2; omega, by have := hf.a3; omega, by have := hf.a4; omega⟩) (by omega) o.p3 (by simp) x a b
 by_cases c : (tk l i).kind = 1
 ·have hk : ((tk l i).kind == 1) = true := by simpa using c
  have ht : decide (B (tk l i).text = B [98, 114, 101, 97, 107]) = false := by
   rw [B_dec]
   unfold isW at h
   rw [c] at h
   simpa using h
  rw [ref12_Places.L1_1_1_1_1_1_0_1_0_0_1_0_0_1_1_0_eq]
  simp only [lt, if_pos lt2, if_pos lt3, if_pos r, Int.toNat_natCast, tok_g hi, tkv_0, tkv_1, tkv_2, tkv_3, hk, ht, w1, lz, lx, if_true, if_false, show Int.toNat 3 = 3 from rfl]
 ·have hk : ((tk l i).kind == 1) = false := by simpa using c
  rw [ref12_Places.L1_1_1_1_1_1_0_1_0_0_1_0_0_1_1_0_eq]
  simp only [lt, if_pos r, Int.toNat_natCast, tok_g hi, tkv_0, tkv_1, tkv_2, tkv_3, hk, w1, lz, lx, if_true, if_false]
theorem in12_3y {l : List Tk} (hn : l.length <= 100000) {i : Nat} (hi : i < l.length) (o : P5) (hf : o.few (i + 1)) (x : Int) (hx : x = 3) (a b c d e : List (List V)) (h : isW (tk l i) [98, 114, 101, 97, 107] = true) :
  ref12_Places.L1_1_1_1_1_1_0_1_0_0_1_0_0_1_1_0 (l.map Tk.v) (i : Int) x (iv o.p0) (iv o.p1) (iv o.p2) (iv o.p3) (iv o.p4) a b c d e = ref12_Places.L1_1_1_1_1_1_0_1_0_0_1_0_0_1_1_0 (l.map Tk.v) (i : Int) (x + 1) (iv o.p0) (iv o.p1) (iv o.p2) (iv (o.p3 ++ [(tk l i).at_])) (iv o.p4) a b c d e := by
 subst hx
 have r := row_in hi
 have w1 : IntKind.i64.wrap ((3 : Int) + 1) = 3 + 1 := wrap_in (by decide) (by decide)
 have lt : decide ((3 : Int) < 5) = true := by decide
 have lt2 : (0 : Int) <= 3 ∧ (3 : Int) < ((5 : Nat) : Int) := by decide
 have lt3 : (0 : Int) <= 3 ∧ (3 : Int) < 5 := by decide
 have ap := iv_app o.p3 (tk l i).at_
 have m := fun x a b => M5 (show o.few 100000 from ⟨by have := hf.a0; omega, by have := hf.a1; omega, by have := hf.a2; omega, by have := hf.a3; omega, by have := hf.a4; omega⟩) (by omega) o.p3 (by simp) x a b
 have hk : ((tk l i).kind == 1) = true := by simpa using (isW_kind h).1
 have ht : decide (B (tk l i).text = B [98, 114, 101, 97, 107]) = true := by rw [B_dec]; simpa using (isW_kind h).2
 rw [ref12_Places.L1_1_1_1_1_1_0_1_0_0_1_0_0_1_1_0_eq]
 simp only [lt, if_pos lt2, if_pos lt3, if_pos r, Int.toNat_natCast, tok_g hi, tkv_0, tkv_1, tkv_2, tkv_3, hk, ht, m, ap, w1, lz, lx, if_true, if_false, show Int.toNat 3 = 3 from rfl, Int.cast_ofNat_Int, Int.natCast_zero, Int.natCast_one, ↓reduceIte, Int.reduceEq, Int.zero_ne_one, Int.one_ne_zero]
theorem in12_4n {l : List Tk} (hn : l.length <= 100000) {i : Nat} (hi : i < l.length) (o : P5) (hf : o.few (i + 1)) (x : Int) (hx : x = 4) (a b c d e : List (List V)) (h : isW (tk l i) [119, 97, 116, 99, 104] = false) :
  ref12_Places.L1_1_1_1_1_1_0_1_0_0_1_0_0_1_1_0 (l.map Tk.v) (i : Int) x (iv o.p0) (iv o.p1) (iv o.p2) (iv o.p3) (iv o.p4) a b c d e = ref12_Places.L1_1_1_1_1_1_0_1_0_0_1_0_0_1_1_0 (l.map Tk.v) (i : Int) (x + 1) (iv o.p0) (iv o.p1) (iv o.p2) (iv o.p3) (iv o.p4) a b c d e := by
 subst hx
 have r := row_in hi
 have w1 : IntKind.i64.wrap ((4 : Int) + 1) = 4 + 1 := wrap_in (by decide) (by decide)
 have lt : decide ((4 : Int) < 5) = true := by decide
 have lt2 : (0 : Int) <= 4 ∧ (4 : Int) < ((5 : Nat) : Int) := by decide
 have lt3 : (0 : Int) <= 4 ∧ (4 : Int) < 5 := by decide
 have ap := iv_app o.p4 (tk l i).at_
 have m := fun x a b => M5 (show o.few 100000 from ⟨by have := hf.a0; omega, by have := hf.a1; omega, by have := hf.a2; omega, by have := hf.a3; omega, by have := hf.a4; omega⟩) (by omega) o.p4 (by simp) x a b
 by_cases c : (tk l i).kind = 1
 ·have hk : ((tk l i).kind == 1) = true := by simpa using c
  have ht : decide (B (tk l i).text = B [119, 97, 116, 99, 104]) = false := by
   rw [B_dec]
   unfold isW at h
   rw [c] at h
   simpa using h
  rw [ref12_Places.L1_1_1_1_1_1_0_1_0_0_1_0_0_1_1_0_eq]
  simp only [lt, if_pos lt2, if_pos lt3, if_pos r, Int.toNat_natCast, tok_g hi, tkv_0, tkv_1, tkv_2, tkv_3, hk, ht, w1, lz, lx, if_true, if_false, show Int.toNat 4 = 4 from rfl]
 ·have hk : ((tk l i).kind == 1) = false := by simpa using c
  rw [ref12_Places.L1_1_1_1_1_1_0_1_0_0_1_0_0_1_1_0_eq]
  simp only [lt, if_pos r, Int.toNat_natCast, tok_g hi, tkv_0, tkv_1, tkv_2, tkv_3, hk, w1, lz, lx, if_true, if_false]
theorem in12_4y {l : List Tk} (hn : l.length <= 100000) {i : Nat} (hi : i < l.length) (o : P5) (hf : o.few (i + 1)) (x : Int) (hx : x = 4) (a b c d e : List (List V)) (h : isW (tk l i) [119, 97, 116, 99, 104] = true) :
  ref12_Places.L1_1_1_1_1_1_0_1_0_0_1_0_0_1_1_0 (l.map Tk.v) (i : Int) x (iv o.p0) (iv o.p1) (iv o.p2) (iv o.p3) (iv o.p4) a b c d e = ref12_Places.L1_1_1_1_1_1_0_1_0_0_1_0_0_1_1_0 (l.map Tk.v) (i : Int) (x + 1) (iv o.p0) (iv o.p1) (iv o.p2) (iv o.p3) (iv (o.p4 ++ [(tk l i).at_])) a b c d e := by
 subst hx
 have r := row_in hi
 have w1 : IntKind.i64.wrap ((4 : Int) + 1) = 4 + 1 := wrap_in (by decide) (by decide)
 have lt : decide ((4 : Int) < 5) = true := by decide
 have lt2 : (0 : Int) <= 4 ∧ (4 : Int) < ((5 : Nat) : Int) := by decide
 have lt3 : (0 : Int) <= 4 ∧ (4 : Int) < 5 := by decide
 have ap := iv_app o.p4 (tk l i).at_
 have m := fun x a b => M5 (show o.few 100000 from ⟨by have := hf.a0; omega, by have := hf.a1; omega, by have := hf.a2; omega, by have := hf.a3; omega, by have := hf.a4; omega⟩) (by omega) o.p4 (by simp) x a b
 have hk : ((tk l i).kind == 1) = true := by simpa using (isW_kind h).1
 have ht : decide (B (tk l i).text = B [119, 97, 116, 99, 104]) = true := by rw [B_dec]; simpa using (isW_kind h).2
 rw [ref12_Places.L1_1_1_1_1_1_0_1_0_0_1_0_0_1_1_0_eq]
 simp only [lt, if_pos lt2, if_pos lt3, if_pos r, Int.toNat_natCast, tok_g hi, tkv_0, tkv_1, tkv_2, tkv_3, hk, ht, m, ap, w1, lz, lx, if_true, if_false, show Int.toNat 4 = 4 from rfl, Int.cast_ofNat_Int, Int.natCast_zero, Int.natCast_one, ↓reduceIte, Int.reduceEq, Int.zero_ne_one, Int.one_ne_zero]
theorem in12_all {l : List Tk} (hn : l.length <= 100000) {i : Nat} (hi : i < l.length) (o : P5) (hf : o.few i) (a b c d e : List (List V)) (h5 : (tk l i).kind ≠ 0 -> five (tk l i) = true) :
  ref12_Places.L1_1_1_1_1_1_0_1_0_0_1_0_0_1_1_0 (l.map Tk.v) (i : Int) 0 (iv o.p0) (iv o.p1) (iv o.p2) (iv o.p3) (iv o.p4) a b c d e = ref12_Places.L1_1_1_1_1_1_0_1_0v1 (l.map Tk.v) ((i + 1 : Nat) : Int) 5 (iv (if (tk l i).kind ≠ 0 then o.add (kindN (tk l i).text) (tk l i).at_ else o).p0) (iv (if (tk l i).kind ≠ 0 then o.add (kindN (tk l i).text) (tk l i).at_ else o).p1) (iv (if (tk l i).kind ≠ 0 then o.add (kindN (tk l i).text) (tk l i).at_ else o).p2) (iv (if (tk l i).kind ≠ 0 then o.add (kindN (tk l i).text) (tk l i).at_ else o).p3) (iv (if (tk l i).kind ≠ 0 then o.add (kindN (tk l i).text) (tk l i).at_ else o).p4) a b c d e := by
 have w := wr1 (show i < 1099511627776 by omega)
 have stop : ∀ o : P5, ref12_Places.L1_1_1_1_1_1_0_1_0_0_1_0_0_1_1_0 (l.map Tk.v) (i : Int) 5 (iv o.p0) (iv o.p1) (iv o.p2) (iv o.p3) (iv o.p4) a b c d e = ref12_Places.L1_1_1_1_1_1_0_1_0v1 (l.map Tk.v) ((i + 1 : Nat) : Int) 5 (iv o.p0) (iv o.p1) (iv o.p2) (iv o.p3) (iv o.p4) a b c d e := fun o => by
  rw [ref12_Places.L1_1_1_1_1_1_0_1_0_0_1_0_0_1_1_0_eq]
  simp only [show decide ((5 : Int) < 5) = false by decide, w, lz, lx, if_true, if_false]
 have ne : ∀ {u v : List UInt8}, u ≠ v -> isW (tk l i) u = true -> isW (tk l i) v = false := fun hu h => by
  unfold isW
  rw [(isW_kind h).2]
  simp [hu]
 have no : ∀ u, (tk l i).kind = 0 -> isW (tk l i) u = false := fun u h => by unfold isW; rw [h]; simp
 by_cases c0 : (tk l i).kind = 0
 ·rw [if_neg (by simp [c0])]
  rw [in12_0n hn hi o hf.few_more 0 rfl a b c d e (no _ c0), in12_1n hn hi o hf.few_more (0 + 1) rfl a b c d e (no _ c0), in12_2n hn hi o hf.few_more (0 + 1 + 1) rfl a b c d e (no _ c0), in12_3n hn hi o hf.few_more (0 + 1 + 1 + 1) rfl a b c d e (no _ c0), in12_4n hn hi o hf.few_more (0 + 1 + 1 + 1 + 1) rfl a b c d e (no _ c0)]
  exact stop o
 ·rw [if_pos c0]
  have h5 := h5 c0
  unfold five at h5
  simp only [Bool.or_eq_true] at h5
  rcases h5 with (((h | h) | h) | h) | h
  ·have kn : kindN (tk l i).text = 0 := by rw [(isW_kind h).2]; rfl
   rw [kn]
   have o2 := stop (o.add 0 (tk l i).at_)
   unfold P5.add at o2 ⊢
   rw [in12_0y hn hi o hf.few_more (0) rfl a b c d e h]
   have g1 := in12_1n hn hi (o.add 0 (tk l i).at_) (hf.few_add _ _) (0 + 1) rfl a b c d e (ne (by decide) h)
   have g2 := in12_2n hn hi (o.add 0 (tk l i).at_) (hf.few_add _ _) (0 + 1 + 1) rfl a b c d e (ne (by decide) h)
   have g3 := in12_3n hn hi (o.add 0 (tk l i).at_) (hf.few_add _ _) (0 + 1 + 1 + 1) rfl a b c d e (ne (by decide) h)
   have g4 := in12_4n hn hi (o.add 0 (tk l i).at_) (hf.few_add _ _) (0 + 1 + 1 + 1 + 1) rfl a b c d e (ne (by decide) h)
   unfold P5.add at g1
   unfold P5.add at g2
   unfold P5.add at g3
   unfold P5.add at g4
   exact g1.trans (g2.trans (g3.trans (g4.trans (o2))))
  ·have kn : kindN (tk l i).text = 1 := by rw [(isW_kind h).2]; rfl
   rw [kn]
   have o2 := stop (o.add 1 (tk l i).at_)
   unfold P5.add at o2 ⊢
   rw [in12_0n hn hi o hf.few_more (0) rfl a b c d e (ne (by decide) h)]
   rw [in12_1y hn hi o hf.few_more (0 + 1) rfl a b c d e h]
   have g2 := in12_2n hn hi (o.add 1 (tk l i).at_) (hf.few_add _ _) (0 + 1 + 1) rfl a b c d e (ne (by decide) h)
   have g3 := in12_3n hn hi (o.add 1 (tk l i).at_) (hf.few_add _ _) (0 + 1 + 1 + 1) rfl a b c d e (ne (by decide) h)
   have g4 := in12_4n hn hi (o.add 1 (tk l i).at_) (hf.few_add _ _) (0 + 1 + 1 + 1 + 1) rfl a b c d e (ne (by decide) h)
   unfold P5.add at g2
   unfold P5.add at g3
   unfold P5.add at g4
   exact g2.trans (g3.trans (g4.trans (o2)))
  ·have kn : kindN (tk l i).text = 2 := by rw [(isW_kind h).2]; rfl
   rw [kn]
   have o2 := stop (o.add 2 (tk l i).at_)
   unfold P5.add at o2 ⊢
   rw [in12_0n hn hi o hf.few_more (0) rfl a b c d e (ne (by decide) h)]
   rw [in12_1n hn hi o hf.few_more (0 + 1) rfl a b c d e (ne (by decide) h)]
   rw [in12_2y hn hi o hf.few_more (0 + 1 + 1) rfl a b c d e h]
   have g3 := in12_3n hn hi (o.add 2 (tk l i).at_) (hf.few_add _ _) (0 + 1 + 1 + 1) rfl a b c d e (ne (by decide) h)
   have g4 := in12_4n hn hi (o.add 2 (tk l i).at_) (hf.few_add _ _) (0 + 1 + 1 + 1 + 1) rfl a b c d e (ne (by decide) h)
   unfold P5.add at g3
   unfold P5.add at g4
   exact g3.trans (g4.trans (o2))
  ·have kn : kindN (tk l i).text = 3 := by rw [(isW_kind h).2]; rfl
   rw [kn]
   have o2 := stop (o.add 3 (tk l i).at_)
   unfold P5.add at o2 ⊢
   rw [in12_0n hn hi o hf.few_more (0) rfl a b c d e (ne (by decide) h)]
   rw [in12_1n hn hi o hf.few_more (0 + 1) rfl a b c d e (ne (by decide) h)]
   rw [in12_2n hn hi o hf.few_more (0 + 1 + 1) rfl a b c d e (ne (by decide) h)]
   rw [in12_3y hn hi o hf.few_more (0 + 1 + 1 + 1) rfl a b c d e h]
   have g4 := in12_4n hn hi (o.add 3 (tk l i).at_) (hf.few_add _ _) (0 + 1 + 1 + 1 + 1) rfl a b c d e (ne (by decide) h)
   unfold P5.add at g4
   exact g4.trans (o2)
  ·have kn : kindN (tk l i).text = 4 := by rw [(isW_kind h).2]; rfl
   rw [kn]
   have o2 := stop (o.add 4 (tk l i).at_)
   unfold P5.add at o2 ⊢
   rw [in12_0n hn hi o hf.few_more (0) rfl a b c d e (ne (by decide) h)]
   rw [in12_1n hn hi o hf.few_more (0 + 1) rfl a b c d e (ne (by decide) h)]
   rw [in12_2n hn hi o hf.few_more (0 + 1 + 1) rfl a b c d e (ne (by decide) h)]
   rw [in12_3n hn hi o hf.few_more (0 + 1 + 1 + 1) rfl a b c d e (ne (by decide) h)]
   rw [in12_4y hn hi o hf.few_more (0 + 1 + 1 + 1 + 1) rfl a b c d e h]
   exact o2
structure Lined (l : List Tk) : Prop where
 five : ∀ i, i < l.length -> (tk l i).kind ≠ 0 -> (i = 0 ∨ isS (tk l (i - 1)) [59] = true) -> five (tk l i) = true
 semi : ∀ i, i < l.length -> (tk l i).text = [59] -> isS (tk l i) [59] = true
theorem ref12_places_loop {l : List Tk} (hn : l.length <= 100000) (hL : Lined l) (a b c d e : List (List V)) : ∀ k, k <= l.length -> 0 < k -> ∀ (o : P5), o.few k ->
  ref12_Places.L1_1_1_1_1_1_0_1_0v1 (l.map Tk.v) (k : Int) 5 (iv o.p0) (iv o.p1) (iv o.p2) (iv o.p3) (iv o.p4) a b c d e = placesV (plGo (l.drop k) (isS (tk l (k - 1)) [59]) o, true) := by
 refine down (fun h0 o hf => ?_) fun k hk ih h0 o hf => ?_
 ·rw [ref12_Places.L1_1_1_1_1_1_0_1_0v1_eq, List.length_map, decide_eq_false (Int.lt_irrefl _), cond_false, List.drop_length]; rfl
 ·have lt : decide ((k : Int) < (((l.map Tk.v).length : Nat) : Int)) = true := decide_eq_true (by rw [List.length_map]; omega)
  have gt : decide ((k : Int) > 0) = true := decide_eq_true (by omega)
  have w := wr1 (show k < 1099511627776 by omega)
  have hp : k - 1 < l.length := by omega
  have w0 : IntKind.i64.wrap ((k : Int) - 1) = ((k - 1 : Nat) : Int) := by rw [wrap_in (by omega) (by omega)]; omega
  have r := row_in hp
  have hd : l.drop k = tk l k :: l.drop (k + 1) := by
   rw [List.drop_eq_getElem_cons hk]
   unfold tk
   rw [List.getD_eq_getElem?_getD, List.getElem?_eq_getElem hk]; rfl
  rw [hd, plGo]
  by_cases ct : (tk l (k - 1)).text = [59]
  ·have cs := hL.semi _ hp ct
   have c' : (!decide (B (tk l (k - 1)).text = B [59])) = false := by rw [B_dec]; simpa using ct
   rw [cs]
   simp only [true_and]
   rw [ref12_Places.L1_1_1_1_1_1_0_1_0v1_eq]
   simp only [lt, gt, w0, if_pos r, Int.toNat_natCast, tok_g hp, tkv_0, tkv_1, tkv_2, tkv_3, c', lz, lx, if_true, if_false]
   rw [in12_all hn hk o hf a b c d e fun h => hL.five k hk h (.inr cs)]
   refine ih (by omega) _ ?_
   split
   ·exact hf.few_add _ _
   ·exact hf.few_more
  ·have cs : isS (tk l (k - 1)) [59] = false := text_semi ct
   have c' : (!decide (B (tk l (k - 1)).text = B [59])) = true := by rw [B_dec]; simpa using ct
   rw [cs, if_neg (by simp)]
   rw [ref12_Places.L1_1_1_1_1_1_0_1_0v1_eq]
   simp only [lt, gt, w, w0, if_pos r, Int.toNat_natCast, tok_g hp, tkv_0, tkv_1, tkv_2, tkv_3, c', lz, lx, if_true, if_false]
   exact ih (by omega) o hf.few_more
theorem decl_Places_is (s : List UInt8) (hs : s.length <= 3000) : den Sp decl_Places.id [.str (B s)] [] none = placesV (placesF s) := by
 have h1 := decl_Parse_is s (by omega)
 have h2 := lex_Scan_all s (by omega)
 unfold parseV Fl.dv at h1
 unfold scanV at h2
 unfold placesF
 by_cases c : (parseF s).2.2 = 0
 ·have c' : ((parseF s).2.2 != 0) = false := by simpa using c
  rw [if_neg (fun h => h c)]
  have hl : (scan s).1.length <= 4001 := by
   unfold scan
   rw [if_neg (by omega)]
   exact scan_len _ _ _ _ (by simp)
  have h3 := fun a b c d e => decl_places_loop (l := (scan s).1) (by omega) a b c d e 0 (by omega) noP true ⟨by simp [noP], by simp [noP], by simp [noP], by simp [noP], by simp [noP]⟩
  rw [List.drop_zero] at h3
  simp only [<- h3 (List.map Pai.v (parseF s).1.pairs) (List.map Pai.v (parseF s).1.sames) (List.map Kp.v (parseF s).1.keeps) (List.map Bk.v (parseF s).1.breaks) (List.map Wt.v (parseF s).1.watches)]
  unfold noP iv
  rw [decl_Places.eq]
  simp only [h1, h2, c', asTup_3, asAgg_5, List.length_map, List.map_nil, Int.natCast_zero, lz, lx, if_true, if_false]
 ·have c' : ((parseF s).2.2 != 0) = true := by simpa using c
  rw [if_pos c]
  unfold placesV P5.v noP iv
  rw [decl_Places.eq]
  simp only [h1, c', asTup_3, asAgg_5, List.map_nil, lz, lx, if_true, if_false]
theorem file_err0 {l : List Tk} (hl : Ended l) (hn : l.length <= 100000) : ∀ (n k : Nat) (f : Fl) (e : Int × Int), k < l.length -> l.length - k < n -> fileR l n f k = .error e -> e.2 ≠ 0
 | 0, k, f, e, _, h, _ => by omega
 | n + 1, k, f, e, hk, hn1, h => by
  rw [fileR] at h
  split at h
  ·cases h
  ·have ht := line_tel hl hn (s := ⟨k, 0, 0⟩) hk rfl f
   simp only at ht
   split at h
   ·rename_i e1 hq
    rw [hq] at ht
    cases h; exact ht.1
   ·rename_i g j hq
    have s := lineR_step hl hn hk hq
    exact file_err0 hl hn n j g e s.end_ (by have := s.lt; omega) h
theorem right_at0 : ∀ {l : List Tk} (h : rightL l = true) (i : Nat) (hi : i + 1 < l.length), wrOk (l[i]'(by omega)) = true
 | t :: u :: l, h, 0, hi => by
  have h' : (wrOk t && rightL (u :: l)) = true := h
  rw [Bool.and_eq_true] at h'
  exact h'.1
 | t :: u :: l, h, i + 1, hi => by
  have h' : (wrOk t && rightL (u :: l)) = true := h
  rw [Bool.and_eq_true] at h'
  exact right_at0 h'.2 i (by simpa using hi)
theorem right_end0 : ∀ {l : List Tk} (h : rightL l = true) (i : Nat), i + 1 = l.length -> (tk l i).text = []
 | [t], h, i, hi => by
  have : i = 0 := by simpa using hi
  subst this
  have h' : endT t = true := h
  unfold endT at h'
  simp only [Bool.and_eq_true, decide_eq_true_eq] at h'
  exact h'.1.2
 | t :: u :: l, h, i, hi => by
  have h' : (wrOk t && rightL (u :: l)) = true := h
  rw [Bool.and_eq_true] at h'
  match i, hi with
  | i + 1, hi =>
   have := right_end0 h'.2 i (by simpa using hi)
   exact this
theorem lined {s : List UInt8} (hs : s.length <= 3000) (h : (parseF s).2.2 = 0) : Lined (scan s).1 ∧ 0 < (scan s).1.length ∧ (scan s).1.length <= 4001 := by
 unfold parseF at h
 by_cases c : (scan s).2.2 = 0
 ·obtain ⟨g1, g2, g3, g4, g5⟩ := scan_ended (by omega) c
  rw [if_neg (fun h => h c)] at h
  unfold toldF at h
  cases hq : fileR (scan s).1 ((scan s).1.length + 1) emptyF 0 with
  | error e =>
   rw [hq] at h
   have he := file_err0 g1 (by omega) _ 0 _ _ g3 (by omega) hq
   exact absurd h he
  | ok f =>
   refine ⟨⟨fun i hi h0 h1 => file_lines g1 (by omega) _ 0 _ _ g3 hq i (Nat.zero_le _) hi h0 (h1.imp id id), fun i hi h2 => ?_⟩, g3, g2⟩
   have hlast : i + 1 < (scan s).1.length := by
    refine g1.next hi fun h0 => ?_
    have := (g1.last i hi).1 h0
    have he := right_end0 g5 i this
    rw [he] at h2; cases h2
   have hw := right_at0 g5 i hlast
   have : tk (scan s).1 i = (scan s).1[i]'hi := by
    unfold tk
    rw [List.getD_eq_getElem?_getD, List.getElem?_eq_getElem hi]; rfl
   rw [this] at h2 ⊢
   exact wr_semi hw h2
 ·rw [if_pos c] at h; exact absurd h c
theorem ref12_Places_is (s : List UInt8) (hs : s.length <= 3000) : den Sp ref12_Places.id [.str (B s)] [] none = placesV (placesF s) := by
 have h1 := ref12_Parse_is s hs
 have h2 := ref02_Scan_is s (by omega)
 unfold parseV12 Fl.rv at h1
 unfold scanV at h2
 unfold placesF
 by_cases c : (parseF s).2.2 = 0
 ·have c' : ((parseF s).2.2 != 0) = false := by simpa using c
  rw [if_neg (fun h => h c)]
  obtain ⟨hL, h0, hn⟩ := lined hs c
  generalize (scan s).1 = l at *
  have z : noP.few 0 := ⟨by simp [noP], by simp [noP], by simp [noP], by simp [noP], by simp [noP]⟩
  have hd : l = tk l 0 :: l.drop 1 := by
   have := List.drop_eq_getElem_cons h0
   rw [List.drop_zero] at this
   have e : tk l 0 = l[0] := by
    unfold tk
    rw [List.getD_eq_getElem?_getD, List.getElem?_eq_getElem h0]; rfl
   rw [e]; exact this
  have h3 := fun a b c d e => in12_all (l := l) (by omega) h0 noP z a b c d e fun h => hL.five 0 h0 h (.inl rfl)
  have e1 : plGo l true noP = plGo (l.drop 1) (isS (tk l 0) [59]) (if (tk l 0).kind ≠ 0 then noP.add (kindN (tk l 0).text) (tk l 0).at_ else noP) := by
   conv => lhs; rw [hd]
   rw [plGo]; simp
  have h4 := fun a b c d e => ref12_places_loop (l := l) (by omega) hL a b c d e 1 (by omega) (by omega) (if (tk l 0).kind ≠ 0 then noP.add (kindN (tk l 0).text) (tk l 0).at_ else noP) (by
   split
   ·exact z.few_add _ _
   ·exact z.few_more)
  have lt : decide ((0 : Int) < (((l.map Tk.v).length : Nat) : Int)) = true := decide_eq_true (by rw [List.length_map]; omega)
  rw [e1]
  refine Eq.trans ?_ (h4 (List.map Pai.v (parseF s).1.pairs) (List.map Pai.v (parseF s).1.sames) (List.map Kp.v (parseF s).1.keeps) (List.map Bk.v (parseF s).1.breaks) (List.map Wt.v (parseF s).1.watches))
  refine Eq.trans ?_ (h3 (List.map Pai.v (parseF s).1.pairs) (List.map Pai.v (parseF s).1.sames) (List.map Kp.v (parseF s).1.keeps) (List.map Bk.v (parseF s).1.breaks) (List.map Wt.v (parseF s).1.watches))
  unfold noP iv
  rw [ref12_Places.eq]
  simp only [h1, h2, c', asTup_3, asAgg_5, List.map_nil, Int.natCast_zero, lz, lx, if_true, if_false]
  rw [ref12_Places.L1_1_1_1_1_1_0_1_0_eq]
  simp only [lt, lz, lx, if_true, if_false]
 ·have c' : ((parseF s).2.2 != 0) = true := by simpa using c
  rw [if_pos c]
  unfold placesV P5.v noP iv
  rw [ref12_Places.eq]
  simp only [h1, c', asTup_3, asAgg_5, List.map_nil, lz, lx, if_true, if_false]
end Go.Proofs.YtmhnmelaodhemaaGreatDoor
namespace Go.Proofs.YtmhnmelaodhemaaGreatDoor
open Go Go.Proofs.Ab
theorem kd_p1 : den Sp decl_Parse.id [.str ⟨#[112, 97, 105, 114, 32, 102, 32, 103, 32, 59, 32, 115, 97, 109, 101, 32, 102, 32, 40, 32, 120, 32, 41, 32, 103, 32, 40, 32, 121, 32, 41, 32, 59, 32, 98, 114, 101, 97, 107, 32, 108, 101, 102, 116, 32, 102, 32, 50, 32, 119, 104, 101, 110, 32, 120, 32, 60, 32, 51, 32, 59]⟩] [] none = (some ⟨(Out.ret (V.tup [(V.agg [(V.sl Tok.no T_api_Pair [[(V.str (ByteArray.mk #[102])), (V.str (ByteArray.mk #[103])), (V.str (ByteArray.mk #[])), (V.str (ByteArray.mk #[]))]]), (V.sl Tok.no T_api_Pair [[(V.str (ByteArray.mk #[102])), (V.str (ByteArray.mk #[103])), (V.str (ByteArray.mk #[120])), (V.str (ByteArray.mk #[121]))]]), (V.sl Tok.no T_decl_Keep []), (V.sl Tok.no T_decl_Break [[(V.int IntKind.i64 (0 : Int)), (V.str (ByteArray.mk #[102])), (V.int IntKind.i64 (2 : Int)), (V.sl Tok.no T_api_Expr [[(V.int IntKind.i64 (6 : Int)), (V.str (ByteArray.mk #[60])), (V.int IntKind.i64 (0 : Int)), (V.sl Tok.no T_api_Expr [[(V.int IntKind.i64 (3 : Int)), (V.str (ByteArray.mk #[120])), (V.int IntKind.i64 (0 : Int)), (V.sl Tok.no T_api_Expr [])], [(V.int IntKind.i64 (1 : Int)), (V.str (ByteArray.mk #[])), (V.int IntKind.i64 (3 : Int)), (V.sl Tok.no T_api_Expr [])]])]])]]), (V.sl Tok.no T_decl_Watch [])]), (V.int IntKind.i64 (0 : Int)), (V.int IntKind.i64 (0 : Int))])), [], none⟩) :=
 callN_le Sp 90 40 (by kernel_rfl)
theorem kd_p2 : den Sp decl_Parse.id [.str ⟨#[112, 97, 105, 114, 32, 102, 32, 59]⟩] [] none = (some ⟨(Out.ret (V.tup [(V.agg [(V.sl Tok.no T_api_Pair []), (V.sl Tok.no T_api_Pair []), (V.sl Tok.no T_decl_Keep []), (V.sl Tok.no T_decl_Break []), (V.sl Tok.no T_decl_Watch [])]), (V.int IntKind.i64 (7 : Int)), (V.int IntKind.i64 (30 : Int))])), [], none⟩) :=
 callN_le Sp 90 40 (by kernel_rfl)
theorem kd_pr : den Sp decl_Print.id [(V.agg [(V.sl Tok.no T_api_Pair [[(V.str (ByteArray.mk #[102])), (V.str (ByteArray.mk #[103])), (V.str (ByteArray.mk #[])), (V.str (ByteArray.mk #[]))]]), (V.sl Tok.no T_api_Pair [[(V.str (ByteArray.mk #[102])), (V.str (ByteArray.mk #[103])), (V.str (ByteArray.mk #[120])), (V.str (ByteArray.mk #[121]))]]), (V.sl Tok.no T_decl_Keep []), (V.sl Tok.no T_decl_Break [[(V.int IntKind.i64 (0 : Int)), (V.str (ByteArray.mk #[102])), (V.int IntKind.i64 (2 : Int)), (V.sl Tok.no T_api_Expr [[(V.int IntKind.i64 (6 : Int)), (V.str (ByteArray.mk #[60])), (V.int IntKind.i64 (0 : Int)), (V.sl Tok.no T_api_Expr [[(V.int IntKind.i64 (3 : Int)), (V.str (ByteArray.mk #[120])), (V.int IntKind.i64 (0 : Int)), (V.sl Tok.no T_api_Expr [])], [(V.int IntKind.i64 (1 : Int)), (V.str (ByteArray.mk #[])), (V.int IntKind.i64 (3 : Int)), (V.sl Tok.no T_api_Expr [])]])]])]]), (V.sl Tok.no T_decl_Watch [])])] [] none = (some ⟨(Out.ret (V.tup [(V.str (ByteArray.mk #[112, 97, 105, 114, 32, 102, 32, 103, 32, 59, 32, 115, 97, 109, 101, 32, 102, 32, 40, 32, 120, 32, 41, 32, 103, 32, 40, 32, 121, 32, 41, 32, 59, 32, 98, 114, 101, 97, 107, 32, 108, 101, 102, 116, 32, 102, 32, (UInt8.ofBitVec (BitVec.ofFin (Fin.mk 50 (Nat.mod_lt (Int.toNat (IntKind.wrap IntKind.u8 (IntKind.wrap IntKind.u64 ((48 : Int) + (Int.tmod (IntKind.wrap IntKind.u64 (2 : Int)) (10 : Int)))))) (BitVec.ofNat._proof_1 8))))), 32, 119, 104, 101, 110, 32, (UInt8.ofBitVec (BitVec.ofFin (Fin.mk 120 (Nat.mod_lt (Int.toNat (((UInt8.toNat 120) : Nat) : Int)) (BitVec.ofNat._proof_1 8))))), (UInt8.ofBitVec (BitVec.ofFin (Fin.mk 32 (Nat.mod_lt (Int.toNat (32 : Int)) (BitVec.ofNat._proof_1 8))))), (UInt8.ofBitVec (BitVec.ofFin (Fin.mk 60 (Nat.mod_lt (Int.toNat (((UInt8.toNat 60) : Nat) : Int)) (BitVec.ofNat._proof_1 8))))), (UInt8.ofBitVec (BitVec.ofFin (Fin.mk 32 (Nat.mod_lt (Int.toNat (32 : Int)) (BitVec.ofNat._proof_1 8))))), (UInt8.ofBitVec (BitVec.ofFin (Fin.mk 51 (Nat.mod_lt (Int.toNat (((UInt8.toNat (UInt8.ofNat (Int.toNat (IntKind.wrap IntKind.u8 (IntKind.wrap IntKind.u64 ((48 : Int) + (Int.tmod (IntKind.wrap IntKind.u64 (3 : Int)) (10 : Int)))))))) : Nat) : Int)) (BitVec.ofNat._proof_1 8))))), 32, 59])), (V.int IntKind.i64 (0 : Int))])), [], none⟩) :=
 callN_le Sp 90 40 (by kernel_rfl)
theorem kd_k : den Sp decl_Kept.id [(V.agg [(V.sl Tok.no T_api_Pair [[(V.str (ByteArray.mk #[102])), (V.str (ByteArray.mk #[103])), (V.str (ByteArray.mk #[])), (V.str (ByteArray.mk #[]))]]), (V.sl Tok.no T_api_Pair [[(V.str (ByteArray.mk #[102])), (V.str (ByteArray.mk #[103])), (V.str (ByteArray.mk #[120])), (V.str (ByteArray.mk #[121]))]]), (V.sl Tok.no T_decl_Keep []), (V.sl Tok.no T_decl_Break [[(V.int IntKind.i64 (0 : Int)), (V.str (ByteArray.mk #[102])), (V.int IntKind.i64 (2 : Int)), (V.sl Tok.no T_api_Expr [[(V.int IntKind.i64 (6 : Int)), (V.str (ByteArray.mk #[60])), (V.int IntKind.i64 (0 : Int)), (V.sl Tok.no T_api_Expr [[(V.int IntKind.i64 (3 : Int)), (V.str (ByteArray.mk #[120])), (V.int IntKind.i64 (0 : Int)), (V.sl Tok.no T_api_Expr [])], [(V.int IntKind.i64 (1 : Int)), (V.str (ByteArray.mk #[])), (V.int IntKind.i64 (3 : Int)), (V.sl Tok.no T_api_Expr [])]])]])]]), (V.sl Tok.no T_decl_Watch [])]), .int .i64 1] [] none = (some ⟨(Out.ret (V.sl Tok.no T_gen_Keep [[(V.str (ByteArray.mk #[103])), (V.str (ByteArray.mk #[121]))]])), [], none⟩) :=
 callN_le Sp 90 40 (by kernel_rfl)
namespace law12_known
theorem eq : den Sp id [] [] none =
  (den Sp decl_Parse.id [V.str (ByteArray.mk #[112, 97, 105, 114, 32, 102, 32, 103, 32, 59, 32, 115, 97, 109, 101, 32, 102, 32, 40, 32, 120, 32, 41, 32, 103, 32, 40, 32, 121, 32, 41, 32, 59, 32, 98, 114, 101, 97, 107, 32, 108, 101, 102, 116, 32, 102, 32, 50, 32, 119, 104, 101, 110, 32, 120, 32, 60, 32, 51, 32, 59])] [] none).bind (fun r2 => Res.onRet r2 (fun v3 => V.asTup v3 3 (fun rd4 => V.asAgg (rd4 0) 5 (fun rd5 => V.asSl (rd5 0) T_api_Pair (fun es6 => V.asSl (rd5 1) T_api_Pair (fun es7 => V.asSl (rd5 2) T_decl_Keep (fun es8 => V.asSl (rd5 3) T_decl_Break (fun es9 => V.asSl (rd5 4) T_decl_Watch (fun es10 => V.asInt (rd4 1) .i64 (fun n11 => V.asInt (rd4 2) .i64 (fun n12 => (den Sp decl_Parse.id [V.str (ByteArray.mk #[112, 97, 105, 114, 32, 102, 32, 59])] [] none).bind (fun r14 => Res.onRet r14 (fun v15 => V.asTup v15 3 (fun rd16 => V.asAgg (rd16 0) 5 (fun rd17 => V.asSl (rd17 0) T_api_Pair (fun es18 => V.asSl (rd17 1) T_api_Pair (fun es19 => V.asSl (rd17 2) T_decl_Keep (fun es20 => V.asSl (rd17 3) T_decl_Break (fun es21 => V.asSl (rd17 4) T_decl_Watch (fun es22 => V.asInt (rd16 1) .i64 (fun n23 => V.asInt (rd16 2) .i64 (fun n24 => (den Sp decl_Print.id [V.agg [V.sl .no T_api_Pair es6, V.sl .no T_api_Pair es7, V.sl .no T_decl_Keep es8, V.sl .no T_decl_Break es9, V.sl .no T_decl_Watch es10]] [] none).bind (fun r26 => Res.onRet r26 (fun v27 => V.asTup v27 2 (fun rd28 => V.asStr (rd28 0) (fun s29 => V.asInt (rd28 1) .i64 (fun n30 => (den Sp decl_Kept.id [V.agg [V.sl .no T_api_Pair es6, V.sl .no T_api_Pair es7, V.sl .no T_decl_Keep es8, V.sl .no T_decl_Break es9, V.sl .no T_decl_Watch es10], V.int .i64 (1 : Int)] [] none).bind (fun r32 => Res.onRet r32 (fun v33 => V.asSl v33 T_gen_Keep (fun es34 => bif (n12 == (0 : Int)) then (bif ((es6.length : Int) == (1 : Int)) then (bif ((es7.length : Int) == (1 : Int)) then (bif ((es9.length : Int) == (1 : Int)) then (bif (n24 == (30 : Int)) then (bif (n23 == (7 : Int)) then (bif (n30 == (0 : Int)) then (bif (decide (s29 = (ByteArray.mk #[112, 97, 105, 114, 32, 102, 32, 103, 32, 59, 32, 115, 97, 109, 101, 32, 102, 32, 40, 32, 120, 32, 41, 32, 103, 32, 40, 32, 121, 32, 41, 32, 59, 32, 98, 114, 101, 97, 107, 32, 108, 101, 102, 116, 32, 102, 32, 50, 32, 119, 104, 101, 110, 32, 120, 32, 60, 32, 51, 32, 59]))) then (bif ((es34.length : Int) == (1 : Int)) then (if (((0 : Int) <= (0 : Int)) ∧ ((0 : Int) < (es34.length : Int))) then (V.asStr (List.getD (List.getD es34 0 []) 1 V.undef) (fun s36 => some ⟨Out.ret (V.bool (decide (s36 = (ByteArray.mk #[121])))), [], none⟩)) else none) else (some ⟨Out.ret (V.bool false), [], none⟩)) else (some ⟨Out.ret (V.bool false), [], none⟩)) else (some ⟨Out.ret (V.bool false), [], none⟩)) else (some ⟨Out.ret (V.bool false), [], none⟩)) else (some ⟨Out.ret (V.bool false), [], none⟩)) else (some ⟨Out.ret (V.bool false), [], none⟩)) else (some ⟨Out.ret (V.bool false), [], none⟩)) else (some ⟨Out.ret (V.bool false), [], none⟩)) else (some ⟨Out.ret (V.bool false), [], none⟩))))))))))))))))))))))))))))))) := (den_eq ..).trans (by kernel_rfl)
end law12_known
end Go.Proofs.YtmhnmelaodhemaaGreatDoor
namespace Go.Proofs.YtmhnmelaodhemaaGreatDoor
open Go Go.Proofs.Ab Go.Proofs.Px
theorem law12_known_is : den Sp law12_known.id [] [] none = some ⟨.ret (.bool true), [], none⟩ := by
 rw [law12_known.eq]
 simp only [kd_p1, kd_p2, kd_pr, kd_k, Option.bind_some, onRet_ret, asAgg_agg, asTup_tup, List.length_cons, List.length_nil, Nat.zero_add, Nat.reduceAdd, List.getD_cons_zero, List.getD_cons_succ, asInt_int, asStr_str, asSl_sl, asBool_bool, bne_self_eq_false, cond_false]
 rfl
end Go.Proofs.YtmhnmelaodhemaaGreatDoor
namespace Go.Proofs.YtmhnmelaodhemaaGreatDoor
open Go Go.Proofs.Ab
namespace law12_DeclPlaces
noncomputable abbrev e (p : List Nat) := ev Sp (den Sp) id Tryz.f5.ntmps (cAt (bodyOf Tryz.f5) p)
noncomputable abbrev cn (n0 : List Nat) := canon Sp id n0
noncomputable abbrev K : K := kFin Sp (den Sp) (Sp.oo id) Tryz.f5 0
noncomputable def L1_1_1_1_1_0_1_0 (l0 l1 : List (List V)) : Option Res := LP (e [1, 1, 1, 1, 1, 0, 1, 0, 0]) (cn [1003, 1005]) (kBlk 0 (kSeq (e [1, 1, 1, 1, 1, 1]) (K))) ([(3, (V.ref 1003 0)), (5, (V.ref 1005 0)), (7, (V.int .i64 (0 : Int))), (8, V.undef)], ⟨[(1003, (Blk.vec T_L_int l0 false)), (1005, (Blk.vec T_L_int l1 false))], [], [], [], none⟩)
noncomputable def L1_1_1_1_1_0_1_0_0_1_0_0_1_1_0 (i0 i1 : Int) (l2 l3 : List (List V)) : Option Res := LP (e [1, 1, 1, 1, 1, 0, 1, 0, 0, 1, 0, 0, 1, 1, 0, 0]) (cn [1003, 1005]) (kBlk 2 (kBlk 1 (kSeq (e [1, 1, 1, 1, 1, 0, 1, 0, 0, 1, 1]) (kLp (e [1, 1, 1, 1, 1, 0, 1, 0, 0]) (cn [1003, 1005]) (kBlk 0 (kSeq (e [1, 1, 1, 1, 1, 1]) (K))))))) ([(3, (V.ref 1003 0)), (5, (V.ref 1005 0)), (7, (V.int .i64 i0)), (8, (V.int .i64 i1))], ⟨[(1003, (Blk.vec T_L_int l2 false)), (1005, (Blk.vec T_L_int l3 false))], [], [], [], none⟩)
noncomputable def L1_1_1_1_1_0_1_0v1 (i0 i1 : Int) (l2 l3 : List (List V)) : Option Res := LP (e [1, 1, 1, 1, 1, 0, 1, 0, 0]) (cn [1003, 1005]) (kBlk 0 (kSeq (e [1, 1, 1, 1, 1, 1]) (K))) ([(3, (V.ref 1003 0)), (5, (V.ref 1005 0)), (7, (V.int .i64 i0)), (8, (V.int .i64 i1))], ⟨[(1003, (Blk.vec T_L_int l2 false)), (1005, (Blk.vec T_L_int l3 false))], [], [], [], none⟩)
theorem L1_1_1_1_1_0_1_0_eq (l0 l1 : List (List V)) : L1_1_1_1_1_0_1_0 l0 l1 =
  (if (((0 : Int) <= (0 : Int)) ∧ (((0 : Int) < ((5 : Nat) : Int)) ∧ ((0 : Int) < (l0.length : Int)))) then (V.asSl (List.getD (List.getD l0 0 []) 0 V.undef) T_int (fun es34 => if (((0 : Int) <= (0 : Int)) ∧ (((0 : Int) < ((5 : Nat) : Int)) ∧ ((0 : Int) < (l1.length : Int)))) then (V.asSl (List.getD (List.getD l1 0 []) 0 V.undef) T_int (fun es35 => bif ((es34.length : Int) != (es35.length : Int)) then (some ⟨Out.ret (V.bool false), [], none⟩) else (L1_1_1_1_1_0_1_0_0_1_0_0_1_1_0 (0 : Int) (0 : Int) l0 l1))) else none)) else none) := (LP_eq ..).trans (by kernel_rfl)
theorem L1_1_1_1_1_0_1_0_0_1_0_0_1_1_0_eq (i0 i1 : Int) (l2 l3 : List (List V)) : L1_1_1_1_1_0_1_0_0_1_0_0_1_1_0 i0 i1 l2 l3 =
  (if (((0 : Int) <= i0) ∧ ((i0 < ((5 : Nat) : Int)) ∧ (i0 < (l2.length : Int)))) then (V.asSl (List.getD (List.getD l2 (Int.toNat i0) []) 0 V.undef) T_int (fun es42 => bif (decide (i1 < (es42.length : Int))) then (if (((0 : Int) <= i0) ∧ ((i0 < ((5 : Nat) : Int)) ∧ (i0 < (l2.length : Int)))) then (V.asSl (List.getD (List.getD l2 (Int.toNat i0) []) 0 V.undef) T_int (fun es44 => if (((0 : Int) <= i1) ∧ (i1 < (es44.length : Int))) then (V.asInt (List.getD (List.getD es44 (Int.toNat i1) []) 0 V.undef) .i64 (fun n45 => if (((0 : Int) <= i0) ∧ ((i0 < ((5 : Nat) : Int)) ∧ (i0 < (l3.length : Int)))) then (V.asSl (List.getD (List.getD l3 (Int.toNat i0) []) 0 V.undef) T_int (fun es46 => if (((0 : Int) <= i1) ∧ (i1 < (es46.length : Int))) then (V.asInt (List.getD (List.getD es46 (Int.toNat i1) []) 0 V.undef) .i64 (fun n47 => bif (n45 != n47) then (some ⟨Out.ret (V.bool false), [], none⟩) else (L1_1_1_1_1_0_1_0_0_1_0_0_1_1_0 i0 (IntKind.wrap .i64 (i1 + (1 : Int))) l2 l3))) else none)) else none)) else none)) else none) else (L1_1_1_1_1_0_1_0v1 (IntKind.wrap .i64 (i0 + (1 : Int))) i1 l2 l3))) else none) := (LP_eq ..).trans (by kernel_rfl)
theorem L1_1_1_1_1_0_1_0v1_eq (i0 i1 : Int) (l2 l3 : List (List V)) : L1_1_1_1_1_0_1_0v1 i0 i1 l2 l3 =
  (bif (decide (i0 < (5 : Int))) then (if (((0 : Int) <= i0) ∧ ((i0 < ((5 : Nat) : Int)) ∧ (i0 < (l2.length : Int)))) then (V.asSl (List.getD (List.getD l2 (Int.toNat i0) []) 0 V.undef) T_int (fun es50 => if (((0 : Int) <= i0) ∧ ((i0 < ((5 : Nat) : Int)) ∧ (i0 < (l3.length : Int)))) then (V.asSl (List.getD (List.getD l3 (Int.toNat i0) []) 0 V.undef) T_int (fun es51 => bif ((es50.length : Int) != (es51.length : Int)) then (some ⟨Out.ret (V.bool false), [], none⟩) else (L1_1_1_1_1_0_1_0_0_1_0_0_1_1_0 i0 (0 : Int) l2 l3))) else none)) else none) else (den Sp law12_known.id [] [] none).bind (fun r50 => Res.onRet r50 (fun v51 => V.asBool v51 (fun b52 => some ⟨Out.ret (V.bool b52), [], none⟩)))) := (LP_eq ..).trans (by kernel_rfl)
theorem eq (a0 : ByteArray) : den Sp id [V.str a0] [] none =
  (den Sp law12_long.id [V.str a0] [] none).bind (fun r3 => Res.onRet r3 (fun v4 => V.asBool v4 (fun b5 => bif b5 then (den Sp law12_known.id [] [] none).bind (fun r7 => Res.onRet r7 (fun v8 => V.asBool v8 (fun b9 => some ⟨Out.ret (V.bool b9), [], none⟩))) else (den Sp decl_Places.id [V.str a0] [] none).bind (fun r7 => Res.onRet r7 (fun v8 => V.asTup v8 2 (fun rd9 => V.asAgg (rd9 0) 5 (fun rd10 => V.asSl (rd10 0) T_int (fun es11 => V.asSl (rd10 1) T_int (fun es12 => V.asSl (rd10 2) T_int (fun es13 => V.asSl (rd10 3) T_int (fun es14 => V.asSl (rd10 4) T_int (fun es15 => V.asBool (rd9 1) (fun b16 => (den Sp ref12_Places.id [V.str a0] [] none).bind (fun r18 => Res.onRet r18 (fun v19 => V.asTup v19 2 (fun rd20 => V.asAgg (rd20 0) 5 (fun rd21 => V.asSl (rd21 0) T_int (fun es22 => V.asSl (rd21 1) T_int (fun es23 => V.asSl (rd21 2) T_int (fun es24 => V.asSl (rd21 3) T_int (fun es25 => V.asSl (rd21 4) T_int (fun es26 => V.asBool (rd20 1) (fun b27 => bif (!(b16 == b27)) then (some ⟨Out.ret (V.bool false), [], none⟩) else (L1_1_1_1_1_0_1_0 [[V.sl .no T_int es11], [V.sl .no T_int es12], [V.sl .no T_int es13], [V.sl .no T_int es14], [V.sl .no T_int es15]] [[V.sl .no T_int es22], [V.sl .no T_int es23], [V.sl .no T_int es24], [V.sl .no T_int es25], [V.sl .no T_int es26]])))))))))))))))))))))))) := (den_eq ..).trans (by kernel_rfl)
end law12_DeclPlaces
namespace law12_long
theorem eq (a0 : ByteArray) : den Sp id [V.str a0] [] none =
  (bif (decide ((((ByteArray.size a0) : Nat) : Int) > (3000 : Int))) then (some ⟨Out.ret (V.bool (decide ((((ByteArray.size a0) : Nat) : Int) <= (16384 : Int)))), [], none⟩) else (some ⟨Out.ret (V.bool false), [], none⟩)) := (den_eq ..).trans (by kernel_rfl)
end law12_long
end Go.Proofs.YtmhnmelaodhemaaGreatDoor
namespace Go.Proofs.YtmhnmelaodhemaaGreatDoor
open Go Go.Proofs.Ab Go.Proofs.Px
attribute [local congr] bind_h asInt_h asBool_h asStr_h asSl_h asSlR_h asAgg_h asTup_h asIface_h asCells_h onRet_h onOut_h cond_h
theorem iv_g (xs : List Int) (k : Nat) : (iv xs).getD k [] = if k < xs.length then [.int .i64 (xs.getD k 0)] else [] := by
 unfold iv
 by_cases c : k < xs.length
 ·rw [if_pos c]
  simp [List.getD, c]
 ·rw [if_neg c]
  simp [List.getD, Nat.le_of_not_lt c]
theorem placesLong_is (s : List UInt8) : den Sp law12_long.id [.str (B s)] [] none = some ⟨.ret (.bool (decide (3000 < s.length ∧ s.length <= 16384))), [], none⟩ := by
 rw [law12_long.eq, B_size]
 by_cases c : 3000 < s.length
 ·have c1 : decide ((s.length : Int) > 3000) = true := decide_eq_true (by omega)
  rw [c1, cond_true]
  congr 3
  by_cases c2 : s.length <= 16384
  ·rw [decide_eq_true (show (s.length : Int) <= 16384 by omega), decide_eq_true ⟨c, c2⟩]
  ·rw [decide_eq_false (show ¬ (s.length : Int) <= 16384 by omega), decide_eq_false (fun h => c2 h.2)]
 ·have c1 : decide ((s.length : Int) > 3000) = false := decide_eq_false (by omega)
  rw [c1, cond_false, decide_eq_false (fun h => c h.1)]
def P5.rows (o : P5) : List (List V) := [[.sl .no T_int (iv o.p0)], [.sl .no T_int (iv o.p1)], [.sl .no T_int (iv o.p2)], [.sl .no T_int (iv o.p3)], [.sl .no T_int (iv o.p4)]]
theorem rows_at (o : P5) (ho : o.few 1000000) : ∀ k : Nat, k < 5 -> ∃ xs : List Int, xs.length <= 1000000 ∧ (o.rows.getD k []).getD 0 .undef = .sl .no T_int (iv xs)
 | 0, _ => ⟨o.p0, ho.a0, rfl⟩
 | 1, _ => ⟨o.p1, ho.a1, rfl⟩
 | 2, _ => ⟨o.p2, ho.a2, rfl⟩
 | 3, _ => ⟨o.p3, ho.a3, rfl⟩
 | 4, _ => ⟨o.p4, ho.a4, rfl⟩
theorem rows_in {k : Nat} (h : k < 5) (o : P5) : (0 : Int) <= (k : Int) ∧ ((k : Int) < ((5 : Nat) : Int) ∧ (k : Int) < ((o.rows.length : Nat) : Int)) := ⟨by omega, by omega, by unfold P5.rows; simp only [List.length_cons, List.length_nil]; omega⟩
theorem cmp_in (o : P5) {k : Nat} (hk : k < 5) (xs : List Int) (hx : xs.length <= 1000000) (h : (o.rows.getD k []).getD 0 .undef = .sl .no T_int (iv xs)) :
  ∀ i, i <= xs.length -> law12_DeclPlaces.L1_1_1_1_1_0_1_0_0_1_0_0_1_1_0 (k : Int) (i : Int) o.rows o.rows = law12_DeclPlaces.L1_1_1_1_1_0_1_0v1 ((k + 1 : Nat) : Int) (xs.length : Int) o.rows o.rows := by
 have r := rows_in hk o
 refine down ?_ fun i hi ih => ?_
 ·have lt0 : decide (((xs.length : Nat) : Int) < ((xs.length : Nat) : Int)) = false := decide_eq_false (Int.lt_irrefl _)
  have w : IntKind.i64.wrap ((k : Int) + 1) = ((k + 1 : Nat) : Int) := by rw [wrap_in (by omega) (by omega)]; omega
  rw [law12_DeclPlaces.L1_1_1_1_1_0_1_0_0_1_0_0_1_1_0_eq]
  simp only [if_pos r, Int.toNat_natCast, h, iv_len, lt0, w, lz, lx, if_true, if_false]
 ·have r2 : (0 : Int) <= (i : Int) ∧ (i : Int) < ((xs.length : Nat) : Int) := ⟨by omega, by omega⟩
  have lt : decide ((i : Int) < ((xs.length : Nat) : Int)) = true := decide_eq_true (by omega)
  have w : IntKind.i64.wrap ((i : Int) + 1) = ((i + 1 : Nat) : Int) := by rw [wrap_in (by omega) (by omega)]; omega
  have g : (iv xs).getD i [] = [.int .i64 (xs.getD i 0)] := by rw [iv_g, if_pos hi]
  refine Eq.trans ?_ ih
  rw [law12_DeclPlaces.L1_1_1_1_1_0_1_0_0_1_0_0_1_1_0_eq]
  simp only [if_pos r, if_pos r2, Int.toNat_natCast, h, iv_len, lt, g, w, lz, lx, if_true, if_false]
theorem cmp_out (o : P5) (ho : o.few 1000000) : ∀ k : Nat, k <= 5 -> ∀ x, law12_DeclPlaces.L1_1_1_1_1_0_1_0v1 (k : Int) x o.rows o.rows = some ⟨.ret (.bool true), [], none⟩ := by
 have key : ∀ k, k <= 5 -> (fun k : Nat => ∀ x, law12_DeclPlaces.L1_1_1_1_1_0_1_0v1 (k : Int) x o.rows o.rows = some ⟨.ret (.bool true), [], none⟩) k := by
  refine down (p := fun k : Nat => ∀ x, law12_DeclPlaces.L1_1_1_1_1_0_1_0v1 (k : Int) x o.rows o.rows = some ⟨.ret (.bool true), [], none⟩) (n := 5) (fun x => ?_) fun k hk ih x => ?_
  ·rw [law12_DeclPlaces.L1_1_1_1_1_0_1_0v1_eq]
   simp only [show decide (((5 : Nat) : Int) < 5) = false by decide, law12_known_is, lz, lx, if_true, if_false]
  ·obtain ⟨xs, hx, h⟩ := rows_at o ho k hk
   have c := cmp_in o hk xs hx h 0 (Nat.zero_le _)
   rw [Int.natCast_zero] at c
   have r := rows_in hk o
   rw [law12_DeclPlaces.L1_1_1_1_1_0_1_0v1_eq]
   simp only [show decide ((k : Int) < 5) = true from decide_eq_true (by omega), if_pos r, Int.toNat_natCast, h, lz, lx, if_true, if_false]
   rw [c]
   exact ih _
 exact fun k hk x => key k hk x
theorem cmp_first (o : P5) (ho : o.few 1000000) : law12_DeclPlaces.L1_1_1_1_1_0_1_0 o.rows o.rows = some ⟨.ret (.bool true), [], none⟩ := by
 obtain ⟨xs, hx, h⟩ := rows_at o ho 0 (by decide)
 have c := cmp_in o (k := 0) (by decide) xs hx h 0 (Nat.zero_le _)
 rw [Int.natCast_zero] at c
 have r := rows_in (k := 0) (by decide) o
 rw [Int.natCast_zero] at r
 rw [law12_DeclPlaces.L1_1_1_1_1_0_1_0_eq]
 simp only [if_pos r, h, lz, lx, if_true, if_false]
 rw [c]
 exact cmp_out o ho 1 (by decide) _
theorem plGo_few : ∀ (l : List Tk) (b : Bool) (o : P5) (n : Nat), o.few n -> (plGo l b o).few (n + l.length)
 | [], b, o, n, h => h
 | t :: r, b, o, n, h => by
  rw [plGo]
  have h2 : (if b = true ∧ t.kind ≠ 0 then o.add (kindN t.text) t.at_ else o).few (n + 1) := by
   split
   ·exact h.few_add _ _
   ·exact h.few_more
  have := plGo_few r (isS t [59]) _ (n + 1) h2
  rw [List.length_cons, show n + (r.length + 1) = n + 1 + r.length by omega]
  exact this
theorem P5.few.mono {o : P5} {n m : Nat} (h : o.few n) (hm : n <= m) : o.few m := ⟨by have := h.a0; omega, by have := h.a1; omega, by have := h.a2; omega, by have := h.a3; omega, by have := h.a4; omega⟩
theorem declPlaces_den (s : ByteArray) (hs : s.size <= 140737488351232) : den Sp law12_DeclPlaces.id [.str s] [] none = some ⟨.ret (.bool true), [], none⟩ := by
 rw [B_of s] at *
 generalize s.data.toList = l at *
 rw [B_size] at hs
 have h0 := placesLong_is l
 by_cases hl : 3000 < l.length ∧ l.length <= 16384
 ·rw [decide_eq_true hl] at h0
  rw [law12_DeclPlaces.eq]
  simp only [h0, law12_known_is, lz, lx, if_true, if_false]
 rw [decide_eq_false hl] at h0
 have key : ∃ o : P5, ∃ b, o.few 1000000 ∧ den Sp decl_Places.id [.str (B l)] [] none = placesV (o, b) ∧ den Sp ref12_Places.id [.str (B l)] [] none = placesV (o, b) := by
  by_cases c : l.length <= 3000
  ·refine ⟨(placesF l).1, (placesF l).2, ?_, decl_Places_is l c, ref12_Places_is l c⟩
   unfold placesF
   split
   ·exact ⟨by simp [noP], by simp [noP], by simp [noP], by simp [noP], by simp [noP]⟩
   ·have h4 : (scan l).1.length <= 4001 := by
     unfold scan
     rw [if_neg (by omega)]
     exact scan_len _ _ _ _ (by simp)
    exact (plGo_few (scan l).1 true noP 0 ⟨by simp [noP], by simp [noP], by simp [noP], by simp [noP], by simp [noP]⟩).mono (by omega)
  ·have h5 : 16384 < l.length := by omega
   refine ⟨noP, false, ⟨by simp [noP], by simp [noP], by simp [noP], by simp [noP], by simp [noP]⟩, ?_, ?_⟩
   ·have h1 := decl_Parse_is l hs
    have e : parseF l = (emptyF, 0, 2) := by unfold parseF scan; rw [if_pos h5]; rfl
    rw [e] at h1
    unfold parseV Fl.dv emptyF at h1
    unfold placesV P5.v noP iv
    rw [decl_Places.eq]
    simp only [h1, asTup_3, asAgg_5, List.map_nil, show ((2 : Int) != 0) = true from rfl, lz, lx, if_true, if_false]
   ·have h1 := ref02_Scan_is l hs
    unfold scan at h1
    rw [if_pos h5] at h1
    unfold scanV at h1
    have h2 : den Sp ref12_Parse.id [.str (B l)] [] none = parseV12 (emptyF, 0, 2) := by
     unfold parseV12 Fl.rv emptyF
     rw [ref12_Parse.eq]
     simp only [h1, asTup_3, List.map_nil, show ((2 : Int) != 0) = true from rfl, lz, lx, if_true, if_false, lb]
    unfold parseV12 Fl.rv emptyF at h2
    unfold placesV P5.v noP iv
    rw [ref12_Places.eq]
    simp only [h2, asTup_3, asAgg_5, List.map_nil, show ((2 : Int) != 0) = true from rfl, lz, lx, if_true, if_false]
 obtain ⟨o, b, ho, h1, h2⟩ := key
 have hc := cmp_first o ho
 unfold placesV P5.v at h1 h2
 unfold P5.rows at hc
 have eb : (!(b == b)) = false := by cases b <;> rfl
 rw [law12_DeclPlaces.eq]
 simp only [h0, h1, h2, eb, asAgg_5, hc, lz, lx, if_true, if_false]
end Go.Proofs.YtmhnmelaodhemaaGreatDoor
