/- Own texts under the law DeclPlaces, merged, without what it does not lean on: part 6 of 7 (the abstract machine and its proof; residual forms; contracts; the plain law). -/
import Derived.Test.YtmhnmelaodhemaaGreatDoorDeclPlacesPackE
import Derived.Laws.Bits64
set_option linter.unusedVariables false
set_option linter.unusedSimpArgs false
set_option linter.unusedSectionVars false
set_option maxRecDepth 100000
namespace Go.Proofs.YtmhnmelaodhemaaGreatDoor
open Go Go.Proofs.Ab
namespace lex_letter
theorem eq (a0 : Int) : den Sp id [V.int IntKind.u8 a0] [] none =
  (bif (decide (a0 >= (65 : Int))) then (bif (decide (a0 <= (90 : Int))) then (some ⟨Out.ret (V.bool true), [], none⟩) else (bif (decide (a0 >= (97 : Int))) then (some ⟨Out.ret (V.bool (decide (a0 <= (122 : Int)))), [], none⟩) else (some ⟨Out.ret (V.bool false), [], none⟩))) else (bif (decide (a0 >= (97 : Int))) then (some ⟨Out.ret (V.bool (decide (a0 <= (122 : Int)))), [], none⟩) else (some ⟨Out.ret (V.bool false), [], none⟩))) := (den_eq ..).trans (by kernel_rfl)
end lex_letter
namespace lex_digit
theorem eq (a0 : Int) : den Sp id [V.int IntKind.u8 a0] [] none =
  (bif (decide (a0 >= (48 : Int))) then (some ⟨Out.ret (V.bool (decide (a0 <= (57 : Int)))), [], none⟩) else (some ⟨Out.ret (V.bool false), [], none⟩)) := (den_eq ..).trans (by kernel_rfl)
end lex_digit
namespace lex_inner
theorem eq (a0 : Int) : den Sp id [V.int IntKind.u8 a0] [] none =
  (den Sp lex_letter.id [V.int IntKind.u8 a0] [] none).bind (fun r3 => Res.onRet r3 (fun v4 => V.asBool v4 (fun b5 => bif b5 then (some ⟨Out.ret (V.bool true), [], none⟩) else (den Sp lex_digit.id [V.int IntKind.u8 a0] [] none).bind (fun r6 => Res.onRet r6 (fun v7 => V.asBool v7 (fun b8 => bif b8 then (some ⟨Out.ret (V.bool true), [], none⟩) else (some ⟨Out.ret (V.bool (a0 == (95 : Int))), [], none⟩))))))) := (den_eq ..).trans (by kernel_rfl)
end lex_inner
namespace lex_isKey
noncomputable abbrev e (p : List Nat) := ev Sp (den Sp) id Tryz.f104.ntmps (cAt (bodyOf Tryz.f104) p)
noncomputable abbrev cn (n0 : List Nat) := canon Sp id n0
noncomputable abbrev K : K := kFin Sp (den Sp) (Sp.oo id) Tryz.f104 0
noncomputable def L1_0_1_0 (s0 : ByteArray) (i1 : Int) : Option Res := LP (e [1, 0, 1, 0, 0]) (cn []) (kBlk 0 (kSeq (e [1, 1]) (K))) ([(0, (V.str s0)), (5, (V.agg [V.str (ByteArray.mk #[112, 114, 111, 99]), V.str (ByteArray.mk #[118, 97, 114]), V.str (ByteArray.mk #[105, 102]), V.str (ByteArray.mk #[101, 108, 115, 101]), V.str (ByteArray.mk #[119, 104, 105, 108, 101]), V.str (ByteArray.mk #[114, 101, 116, 117, 114, 110]), V.str (ByteArray.mk #[112, 114, 105, 110, 116]), V.str (ByteArray.mk #[114, 101, 97, 100]), V.str (ByteArray.mk #[97, 115, 115, 101, 114, 116]), V.str (ByteArray.mk #[105, 110, 116]), V.str (ByteArray.mk #[98, 111, 111, 108]), V.str (ByteArray.mk #[116, 114, 117, 101]), V.str (ByteArray.mk #[102, 97, 108, 115, 101])])), (6, (V.int .i64 i1))], ⟨[], [], [], [], none⟩)
theorem L1_0_1_0_eq (s0 : ByteArray) (i1 : Int) : L1_0_1_0 s0 i1 =
  (bif (decide (i1 < (13 : Int))) then (if (((0 : Int) <= i1) ∧ (i1 < ((13 : Nat) : Int))) then (V.asStr (List.getD [V.str (ByteArray.mk #[112, 114, 111, 99]), V.str (ByteArray.mk #[118, 97, 114]), V.str (ByteArray.mk #[105, 102]), V.str (ByteArray.mk #[101, 108, 115, 101]), V.str (ByteArray.mk #[119, 104, 105, 108, 101]), V.str (ByteArray.mk #[114, 101, 116, 117, 114, 110]), V.str (ByteArray.mk #[112, 114, 105, 110, 116]), V.str (ByteArray.mk #[114, 101, 97, 100]), V.str (ByteArray.mk #[97, 115, 115, 101, 114, 116]), V.str (ByteArray.mk #[105, 110, 116]), V.str (ByteArray.mk #[98, 111, 111, 108]), V.str (ByteArray.mk #[116, 114, 117, 101]), V.str (ByteArray.mk #[102, 97, 108, 115, 101])] (((Int.toNat i1) * 1) + 0) V.undef) (fun s7 => bif (decide (s0 = s7)) then (some ⟨Out.ret (V.bool true), [], none⟩) else (L1_0_1_0 s0 (IntKind.wrap .i64 (i1 + (1 : Int)))))) else none) else (some ⟨Out.ret (V.bool false), [], none⟩)) := (LP_eq ..).trans (by kernel_rfl)
theorem eq (a0 : ByteArray) : den Sp id [V.str a0] [] none =
  (L1_0_1_0 a0 (0 : Int)) := (den_eq ..).trans (by kernel_rfl)
end lex_isKey
namespace lex_IsName
noncomputable abbrev e (p : List Nat) := ev Sp (den Sp) id Tryz.f60.ntmps (cAt (bodyOf Tryz.f60) p)
noncomputable abbrev cn (n0 : List Nat) := canon Sp id n0
noncomputable abbrev K : K := kFin Sp (den Sp) (Sp.oo id) Tryz.f60 0
noncomputable def L1_1_0_1_0 (s0 : ByteArray) (i1 i2 : Int) : Option Res := LP (e [1, 1, 0, 1, 0, 0]) (cn []) (kBlk 0 (kSeq (e [1, 1, 1]) (K))) ([(0, (V.str s0)), (22, (V.int .i64 i1)), (23, (V.int .i64 i2))], ⟨[], [], [], [], none⟩)
theorem L1_1_0_1_0_eq (s0 : ByteArray) (i1 i2 : Int) : L1_1_0_1_0 s0 i1 i2 =
  (bif (decide (i2 < i1)) then (if (((0 : Int) <= i2) ∧ (i2 < (((ByteArray.size s0) : Nat) : Int))) then (den Sp lex_inner.id [V.int IntKind.u8 (byteAt s0 (Int.toNat i2))] [] none).bind (fun r16 => Res.onRet r16 (fun v17 => V.asBool v17 (fun b18 => bif (!b18) then (some ⟨Out.ret (V.bool false), [], none⟩) else (L1_1_0_1_0 s0 i1 (IntKind.wrap .i64 (i2 + (1 : Int))))))) else none) else (some ⟨Out.ret (V.bool true), [], none⟩)) := (LP_eq ..).trans (by kernel_rfl)
theorem eq (a0 : ByteArray) : den Sp id [V.str a0] [] none =
  (bif (decide (a0 = (ByteArray.mk #[]))) then (some ⟨Out.ret (V.bool false), [], none⟩) else (bif (decide ((((ByteArray.size a0) : Nat) : Int) > (40 : Int))) then (some ⟨Out.ret (V.bool false), [], none⟩) else (if (((0 : Int) <= (0 : Int)) ∧ ((0 : Int) < (((ByteArray.size a0) : Nat) : Int))) then (den Sp lex_letter.id [V.int IntKind.u8 (byteAt a0 0)] [] none).bind (fun r3 => Res.onRet r3 (fun v4 => V.asBool v4 (fun b5 => bif (!b5) then (some ⟨Out.ret (V.bool false), [], none⟩) else (den Sp lex_isKey.id [V.str a0] [] none).bind (fun r6 => Res.onRet r6 (fun v7 => V.asBool v7 (fun b8 => bif b8 then (some ⟨Out.ret (V.bool false), [], none⟩) else (L1_1_0_1_0 a0 (((ByteArray.size a0) : Nat) : Int) (0 : Int)))))))) else none))) := (den_eq ..).trans (by kernel_rfl)
end lex_IsName
namespace ref02_between
theorem eq (a0 a1 a2 : Int) : den Sp id [V.int IntKind.u8 a0, V.int IntKind.u8 a1, V.int IntKind.u8 a2] [] none =
  (bif (decide (a0 >= a1)) then (some ⟨Out.ret (V.bool (decide (a0 <= a2))), [], none⟩) else (some ⟨Out.ret (V.bool false), [], none⟩)) := (den_eq ..).trans (by kernel_rfl)
end ref02_between
namespace ref02_letter
theorem eq (a0 : Int) : den Sp id [V.int IntKind.u8 a0] [] none =
  (den Sp ref02_between.id [V.int IntKind.u8 a0, V.int IntKind.u8 (65 : Int), V.int IntKind.u8 (90 : Int)] [] none).bind (fun r3 => Res.onRet r3 (fun v4 => V.asBool v4 (fun b5 => bif b5 then (some ⟨Out.ret (V.bool true), [], none⟩) else (den Sp ref02_between.id [V.int IntKind.u8 a0, V.int IntKind.u8 (97 : Int), V.int IntKind.u8 (122 : Int)] [] none).bind (fun r6 => Res.onRet r6 (fun v7 => V.asBool v7 (fun b8 => some ⟨Out.ret (V.bool b8), [], none⟩)))))) := (den_eq ..).trans (by kernel_rfl)
end ref02_letter
namespace ref02_digit
theorem eq (a0 : Int) : den Sp id [V.int IntKind.u8 a0] [] none =
  (den Sp ref02_between.id [V.int IntKind.u8 a0, V.int IntKind.u8 (48 : Int), V.int IntKind.u8 (57 : Int)] [] none).bind (fun r3 => Res.onRet r3 (fun v4 => V.asBool v4 (fun b5 => some ⟨Out.ret (V.bool b5), [], none⟩))) := (den_eq ..).trans (by kernel_rfl)
end ref02_digit
namespace ref02_inner
theorem eq (a0 : Int) : den Sp id [V.int IntKind.u8 a0] [] none =
  (den Sp ref02_letter.id [V.int IntKind.u8 a0] [] none).bind (fun r3 => Res.onRet r3 (fun v4 => V.asBool v4 (fun b5 => bif b5 then (some ⟨Out.ret (V.bool true), [], none⟩) else (den Sp ref02_digit.id [V.int IntKind.u8 a0] [] none).bind (fun r6 => Res.onRet r6 (fun v7 => V.asBool v7 (fun b8 => bif b8 then (some ⟨Out.ret (V.bool true), [], none⟩) else (some ⟨Out.ret (V.bool (a0 == (95 : Int))), [], none⟩))))))) := (den_eq ..).trans (by kernel_rfl)
end ref02_inner
namespace ref02_Keys
theorem eq : den Sp id [] [] none =
  (some ⟨Out.ret (V.sl .no T_string [[V.str (ByteArray.mk #[112, 114, 111, 99])], [V.str (ByteArray.mk #[118, 97, 114])], [V.str (ByteArray.mk #[105, 102])], [V.str (ByteArray.mk #[101, 108, 115, 101])], [V.str (ByteArray.mk #[119, 104, 105, 108, 101])], [V.str (ByteArray.mk #[114, 101, 116, 117, 114, 110])], [V.str (ByteArray.mk #[112, 114, 105, 110, 116])], [V.str (ByteArray.mk #[114, 101, 97, 100])], [V.str (ByteArray.mk #[97, 115, 115, 101, 114, 116])], [V.str (ByteArray.mk #[105, 110, 116])], [V.str (ByteArray.mk #[98, 111, 111, 108])], [V.str (ByteArray.mk #[116, 114, 117, 101])], [V.str (ByteArray.mk #[102, 97, 108, 115, 101])]]), [], none⟩) := (den_eq ..).trans (by kernel_rfl)
end ref02_Keys
namespace ref02_in
noncomputable abbrev e (p : List Nat) := ev Sp (den Sp) id Tryz.f116.ntmps (cAt (bodyOf Tryz.f116) p)
noncomputable abbrev cn (n0 : List Nat) := canon Sp id n0
noncomputable abbrev K : K := kFin Sp (den Sp) (Sp.oo id) Tryz.f116 0
noncomputable def L1_0_1_0 (s0 : ByteArray) (l1 : List (List V)) (i2 : Int) : Option Res := LP (e [1, 0, 1, 0, 0]) (cn []) (kBlk 0 (kSeq (e [1, 1]) (K))) ([(0, (V.str s0)), (1, (V.sl .no T_string l1)), (5, (V.int .i64 i2))], ⟨[], [], [], [], none⟩)
theorem L1_0_1_0_eq (s0 : ByteArray) (l1 : List (List V)) (i2 : Int) : L1_0_1_0 s0 l1 i2 =
  (bif (decide (i2 < (l1.length : Int))) then (if (((0 : Int) <= i2) ∧ (i2 < (l1.length : Int))) then (V.asStr (List.getD (List.getD l1 (Int.toNat i2) []) 0 V.undef) (fun s9 => bif (decide (s9 = s0)) then (some ⟨Out.ret (V.bool true), [], none⟩) else (L1_0_1_0 s0 l1 (IntKind.wrap .i64 (i2 + (1 : Int)))))) else none) else (some ⟨Out.ret (V.bool false), [], none⟩)) := (LP_eq ..).trans (by kernel_rfl)
theorem eq (a0 : ByteArray) (a1 : List (List V)) : den Sp id [V.str a0, V.sl .no T_string a1] [] none =
  (L1_0_1_0 a0 a1 (0 : Int)) := (den_eq ..).trans (by kernel_rfl)
end ref02_in
namespace ref02_IsName
noncomputable abbrev e (p : List Nat) := ev Sp (den Sp) id Tryz.f69.ntmps (cAt (bodyOf Tryz.f69) p)
noncomputable abbrev cn (n0 : List Nat) := canon Sp id n0
noncomputable abbrev K : K := kFin Sp (den Sp) (Sp.oo id) Tryz.f69 0
noncomputable def L1_0_1_0 (s0 : ByteArray) (i1 : Int) : Option Res := LP (e [1, 0, 1, 0, 0]) (cn []) (kBlk 0 (kSeq (e [1, 1]) (K))) ([(0, (V.str s0)), (3, (V.int .i64 i1))], ⟨[], [], [], [], none⟩)
theorem L1_0_1_0_eq (s0 : ByteArray) (i1 : Int) : L1_0_1_0 s0 i1 =
  (bif (decide (i1 < (((ByteArray.size s0) : Nat) : Int))) then (if (((0 : Int) <= i1) ∧ (i1 < (((ByteArray.size s0) : Nat) : Int))) then (den Sp ref02_inner.id [V.int IntKind.u8 (byteAt s0 (Int.toNat i1))] [] none).bind (fun r7 => Res.onRet r7 (fun v8 => V.asBool v8 (fun b9 => bif (!b9) then (some ⟨Out.ret (V.bool false), [], none⟩) else (L1_0_1_0 s0 (IntKind.wrap .i64 (i1 + (1 : Int))))))) else none) else (bif (decide ((((ByteArray.size s0) : Nat) : Int) > (0 : Int))) then (bif (decide ((((ByteArray.size s0) : Nat) : Int) <= (40 : Int))) then (if (((0 : Int) <= (0 : Int)) ∧ ((0 : Int) < (((ByteArray.size s0) : Nat) : Int))) then (den Sp ref02_letter.id [V.int IntKind.u8 (byteAt s0 0)] [] none).bind (fun r7 => Res.onRet r7 (fun v8 => V.asBool v8 (fun b9 => bif b9 then (den Sp ref02_Keys.id [] [] none).bind (fun r10 => Res.onRet r10 (fun v11 => V.asSl v11 T_string (fun es12 => (den Sp ref02_in.id [V.str s0, V.sl .no T_string es12] [] none).bind (fun r13 => Res.onRet r13 (fun v14 => V.asBool v14 (fun b15 => some ⟨Out.ret (V.bool (!b15)), [], none⟩)))))) else (some ⟨Out.ret (V.bool false), [], none⟩)))) else none) else (some ⟨Out.ret (V.bool false), [], none⟩)) else (some ⟨Out.ret (V.bool false), [], none⟩))) := (LP_eq ..).trans (by kernel_rfl)
theorem eq (a0 : ByteArray) : den Sp id [V.str a0] [] none =
  (L1_0_1_0 a0 (0 : Int)) := (den_eq ..).trans (by kernel_rfl)
end ref02_IsName
namespace ref01_Bits
noncomputable abbrev e (p : List Nat) := ev Sp (den Sp) id Tryz.f174.ntmps (cAt (bodyOf Tryz.f174) p)
noncomputable abbrev cn (n0 : List Nat) := canon Sp id n0
noncomputable abbrev K : K := kFin Sp (den Sp) (Sp.oo id) Tryz.f174 0
noncomputable def L1_1_0_1_0 (i0 : Int) (l1 : List (List V)) (i2 : Int) : Option Res := LP (e [1, 1, 0, 1, 0, 0]) (cn []) (kBlk 0 (kSeq (e [1, 1, 1]) (K))) ([(0, (V.int .i64 i0)), (3, (V.sl (Tok.row 0) T_int l1)), (4, (V.int .i64 i2))], ⟨[], [0], [], [], none⟩)
theorem L1_1_0_1_0_eq (i0 : Int) (l1 : List (List V)) (i2 : Int) : L1_1_0_1_0 i0 l1 i2 =
  (bif (decide (i2 < (64 : Int))) then (if ((IntKind.wrap IntKind.u64 i2) < (0 : Int)) then none else (if (((List.length l1) + (List.length [[V.int .i64 (IntKind.wrap .i64 (Int.tmod (Int.fdiv (IntKind.wrap IntKind.u64 i0) ((2 : Int) ^ (Min.min (Int.toNat (IntKind.wrap IntKind.u64 i2)) 64))) (2 : Int)))]])) <= most) then (L1_1_0_1_0 i0 (l1 ++ [[V.int .i64 (IntKind.wrap .i64 (Int.tmod (Int.fdiv (IntKind.wrap IntKind.u64 i0) ((2 : Int) ^ (Min.min (Int.toNat (IntKind.wrap IntKind.u64 i2)) 64))) (2 : Int)))]]) (IntKind.wrap .i64 (i2 + (1 : Int)))) else none)) else (some ⟨Out.ret (V.sl .no T_int l1), [], none⟩)) := (LP_eq ..).trans (by kernel_rfl)
theorem eq (a0 : Int) : den Sp id [V.int .i64 a0] [] none =
  (L1_1_0_1_0 a0 [] (0 : Int)) := (den_eq ..).trans (by kernel_rfl)
end ref01_Bits
namespace ref01_number
noncomputable abbrev e (p : List Nat) := ev Sp (den Sp) id Tryz.f172.ntmps (cAt (bodyOf Tryz.f172) p)
noncomputable abbrev cn (n0 : List Nat) := canon Sp id n0
noncomputable abbrev K : K := kFin Sp (den Sp) (Sp.oo id) Tryz.f172 0
noncomputable def L1_1_0_1_0 (l0 : List (List V)) (i1 i2 : Int) : Option Res := LP (e [1, 1, 0, 1, 0, 0]) (cn []) (kBlk 0 (kSeq (e [1, 1, 1]) (K))) ([(0, (V.sl .no T_int l0)), (3, (V.int IntKind.u64 i1)), (4, (V.int .i64 i2))], ⟨[], [], [], [], none⟩)
theorem L1_1_0_1_0_eq (l0 : List (List V)) (i1 i2 : Int) : L1_1_0_1_0 l0 i1 i2 =
  (bif (decide (i2 >= (0 : Int))) then (if (((0 : Int) <= i2) ∧ (i2 < (l0.length : Int))) then (V.asInt (List.getD (List.getD l0 (Int.toNat i2) []) 0 V.undef) .i64 (fun n9 => L1_1_0_1_0 l0 (IntKind.wrap IntKind.u64 ((IntKind.wrap IntKind.u64 (i1 * (2 : Int))) + (IntKind.wrap IntKind.u64 n9))) (IntKind.wrap .i64 (i2 - (1 : Int))))) else none) else (some ⟨Out.ret (V.int .i64 (IntKind.wrap .i64 i1)), [], none⟩)) := (LP_eq ..).trans (by kernel_rfl)
theorem eq (a0 : (List (List V))) : den Sp id [V.sl .no T_int a0] [] none =
  (L1_1_0_1_0 a0 (0 : Int) (63 : Int)) := (den_eq ..).trans (by kernel_rfl)
end ref01_number
namespace ref01_other
noncomputable abbrev e (p : List Nat) := ev Sp (den Sp) id Tryz.f175.ntmps (cAt (bodyOf Tryz.f175) p)
noncomputable abbrev cn (n0 : List Nat) := canon Sp id n0
noncomputable abbrev K : K := kFin Sp (den Sp) (Sp.oo id) Tryz.f175 0
noncomputable def L1_1_0_1_0 (l0 l1 : List (List V)) (i2 : Int) : Option Res := LP (e [1, 1, 0, 1, 0, 0]) (cn []) (kBlk 0 (kSeq (e [1, 1, 1]) (K))) ([(0, (V.sl .no T_int l0)), (3, (V.sl (Tok.row 0) T_int l1)), (4, (V.int .i64 i2))], ⟨[], [0], [], [], none⟩)
theorem L1_1_0_1_0_eq (l0 l1 : List (List V)) (i2 : Int) : L1_1_0_1_0 l0 l1 i2 =
  (bif (decide (i2 < (l0.length : Int))) then (if (((0 : Int) <= i2) ∧ (i2 < (l0.length : Int))) then (V.asInt (List.getD (List.getD l0 (Int.toNat i2) []) 0 V.undef) .i64 (fun n9 => if (((List.length l1) + (List.length [[V.int .i64 (IntKind.wrap .i64 ((1 : Int) - n9))]])) <= most) then (L1_1_0_1_0 l0 (l1 ++ [[V.int .i64 (IntKind.wrap .i64 ((1 : Int) - n9))]]) (IntKind.wrap .i64 (i2 + (1 : Int)))) else none)) else none) else (some ⟨Out.ret (V.sl .no T_int l1), [], none⟩)) := (LP_eq ..).trans (by kernel_rfl)
theorem eq (a0 : (List (List V))) : den Sp id [V.sl .no T_int a0] [] none =
  (L1_1_0_1_0 a0 [] (0 : Int)) := (den_eq ..).trans (by kernel_rfl)
end ref01_other
namespace ref01_plus
noncomputable abbrev e (p : List Nat) := ev Sp (den Sp) id Tryz.f173.ntmps (cAt (bodyOf Tryz.f173) p)
noncomputable abbrev cn (n0 : List Nat) := canon Sp id n0
noncomputable abbrev K : K := kFin Sp (den Sp) (Sp.oo id) Tryz.f173 0
noncomputable def L1_1_0_1_0 (l0 l1 : List (List V)) (i2 : Int) (l3 : List (List V)) (i4 : Int) : Option Res := LP (e [1, 1, 0, 1, 0, 0]) (cn []) (kBlk 0 (kSeq (e [1, 1, 1]) (K))) ([(0, (V.sl .no T_int l0)), (1, (V.sl .no T_int l1)), (2, (V.int .i64 i2)), (7, (V.sl (Tok.row 0) T_int l3)), (8, (V.int .i64 i4))], ⟨[], [0], [], [], none⟩)
theorem L1_1_0_1_0_eq (l0 l1 : List (List V)) (i2 : Int) (l3 : List (List V)) (i4 : Int) : L1_1_0_1_0 l0 l1 i2 l3 i4 =
  (bif (decide (i4 < (64 : Int))) then (if (((0 : Int) <= i4) ∧ (i4 < (l0.length : Int))) then (V.asInt (List.getD (List.getD l0 (Int.toNat i4) []) 0 V.undef) .i64 (fun n13 => if (((0 : Int) <= i4) ∧ (i4 < (l1.length : Int))) then (V.asInt (List.getD (List.getD l1 (Int.toNat i4) []) 0 V.undef) .i64 (fun n14 => if (((List.length l3) + (List.length [[V.int .i64 (Int.tmod (IntKind.wrap .i64 ((IntKind.wrap .i64 (n13 + n14)) + i2)) (2 : Int))]])) <= most) then (L1_1_0_1_0 l0 l1 (IntKind.wrap .i64 (Int.tdiv (IntKind.wrap .i64 ((IntKind.wrap .i64 (n13 + n14)) + i2)) (2 : Int))) (l3 ++ [[V.int .i64 (Int.tmod (IntKind.wrap .i64 ((IntKind.wrap .i64 (n13 + n14)) + i2)) (2 : Int))]]) (IntKind.wrap .i64 (i4 + (1 : Int)))) else none)) else none)) else none) else (some ⟨Out.ret (V.sl .no T_int l3), [], none⟩)) := (LP_eq ..).trans (by kernel_rfl)
theorem eq (a0 a1 : List (List V)) (a2 : Int) : den Sp id [V.sl .no T_int a0, V.sl .no T_int a1, V.int .i64 a2] [] none =
  (L1_1_0_1_0 a0 a1 a2 [] (0 : Int)) := (den_eq ..).trans (by kernel_rfl)
end ref01_plus
namespace ref01_Sub
theorem eq (a0 a1 : Int) : den Sp id [V.int .i64 a0, V.int .i64 a1] [] none =
  (den Sp ref01_Bits.id [V.int .i64 a0] [] none).bind (fun r4 => Res.onRet r4 (fun v5 => V.asSl v5 T_int (fun es6 => (den Sp ref01_Bits.id [V.int .i64 a1] [] none).bind (fun r7 => Res.onRet r7 (fun v8 => V.asSl v8 T_int (fun es9 => (den Sp ref01_other.id [V.sl .no T_int es9] [] none).bind (fun r10 => Res.onRet r10 (fun v11 => V.asSl v11 T_int (fun es12 => (den Sp ref01_plus.id [V.sl .no T_int es6, V.sl .no T_int es12, V.int .i64 (1 : Int)] [] none).bind (fun r13 => Res.onRet r13 (fun v14 => V.asSl v14 T_int (fun es15 => (den Sp ref01_number.id [V.sl .no T_int es15] [] none).bind (fun r16 => Res.onRet r16 (fun v17 => V.asInt v17 .i64 (fun n18 => some ⟨Out.ret (V.int .i64 n18), [], none⟩))))))))))))))) := (den_eq ..).trans (by kernel_rfl)
end ref01_Sub
namespace ref01_Neg
theorem eq (a0 : Int) : den Sp id [V.int .i64 a0] [] none =
  (den Sp ref01_Sub.id [V.int .i64 (0 : Int), V.int .i64 a0] [] none).bind (fun r3 => Res.onRet r3 (fun v4 => V.asInt v4 .i64 (fun n5 => some ⟨Out.ret (V.int .i64 n5), [], none⟩))) := (den_eq ..).trans (by kernel_rfl)
end ref01_Neg
namespace ref01_size
theorem eq (a0 : Int) : den Sp id [V.int .i64 a0] [] none =
  (bif (decide (a0 < (0 : Int))) then (den Sp ref01_Neg.id [V.int .i64 a0] [] none).bind (fun r4 => Res.onRet r4 (fun v5 => V.asInt v5 .i64 (fun n6 => some ⟨Out.ret (V.int IntKind.u64 (IntKind.wrap IntKind.u64 n6)), [], none⟩))) else (some ⟨Out.ret (V.int IntKind.u64 (IntKind.wrap IntKind.u64 a0)), [], none⟩)) := (den_eq ..).trans (by kernel_rfl)
end ref01_size
namespace ref01_Text
noncomputable abbrev e (p : List Nat) := ev Sp (den Sp) id Tryz.f36.ntmps (cAt (bodyOf Tryz.f36) p)
noncomputable abbrev cn (n0 : List Nat) := canon Sp id n0
noncomputable abbrev K : K := kFin Sp (den Sp) (Sp.oo id) Tryz.f36 0
noncomputable def L1_1_1_0_0 (i0 : Int) (s1 : ByteArray) (i2 : Int) : Option Res := LP (e [1, 1, 1, 0, 0, 0]) (cn []) (kBlk 0 (kSeq (e [1, 1, 1, 1]) (K))) ([(0, (V.int .i64 i0)), (3, (V.str s1)), (4, (V.int IntKind.u64 i2))], ⟨[], [], [], [], none⟩)
theorem L1_1_1_0_0_eq (i0 : Int) (s1 : ByteArray) (i2 : Int) : L1_1_1_0_0 i0 s1 i2 =
  (bif (decide (s1 = (ByteArray.mk #[]))) then (if (((ByteArray.size (ByteArray.mk (toBytes [[V.int IntKind.u8 (IntKind.wrap IntKind.u8 (IntKind.wrap IntKind.u64 ((48 : Int) + (Int.tmod i2 (10 : Int)))))]]).toArray)) + (ByteArray.size s1)) <= most) then (L1_1_1_0_0 i0 ((ByteArray.mk (toBytes [[V.int IntKind.u8 (IntKind.wrap IntKind.u8 (IntKind.wrap IntKind.u64 ((48 : Int) + (Int.tmod i2 (10 : Int)))))]]).toArray) ++ s1) (IntKind.wrap IntKind.u64 (Int.tdiv i2 (10 : Int)))) else none) else (bif (decide (i2 > (0 : Int))) then (if (((ByteArray.size (ByteArray.mk (toBytes [[V.int IntKind.u8 (IntKind.wrap IntKind.u8 (IntKind.wrap IntKind.u64 ((48 : Int) + (Int.tmod i2 (10 : Int)))))]]).toArray)) + (ByteArray.size s1)) <= most) then (L1_1_1_0_0 i0 ((ByteArray.mk (toBytes [[V.int IntKind.u8 (IntKind.wrap IntKind.u8 (IntKind.wrap IntKind.u64 ((48 : Int) + (Int.tmod i2 (10 : Int)))))]]).toArray) ++ s1) (IntKind.wrap IntKind.u64 (Int.tdiv i2 (10 : Int)))) else none) else (bif (decide (i0 < (0 : Int))) then (if ((1 + (ByteArray.size s1)) <= most) then (some ⟨Out.ret (V.str ((ByteArray.mk #[45]) ++ s1)), [], none⟩) else none) else (some ⟨Out.ret (V.str s1), [], none⟩)))) := (LP_eq ..).trans (by kernel_rfl)
theorem eq (a0 : Int) : den Sp id [V.int .i64 a0] [] none =
  (den Sp ref01_size.id [V.int .i64 a0] [] none).bind (fun r4 => Res.onRet r4 (fun v5 => V.asInt v5 IntKind.u64 (fun n6 => L1_1_1_0_0 a0 (ByteArray.mk #[]) n6))) := (den_eq ..).trans (by kernel_rfl)
end ref01_Text
namespace num_Text
noncomputable abbrev e (p : List Nat) := ev Sp (den Sp) id Tryz.f61.ntmps (cAt (bodyOf Tryz.f61) p)
noncomputable abbrev cn (n0 : List Nat) := canon Sp id n0
noncomputable abbrev K : K := kFin Sp (den Sp) (Sp.oo id) Tryz.f61 0
noncomputable def L1_1_1_1_1_0_0 (i0 i1 i2 : Int) (l3 : List (List V)) : Option Res := LP (e [1, 1, 1, 1, 1, 0, 0, 0]) (cn [1003]) (kBlk 0 (kSeq (e [1, 1, 1, 1, 1, 1]) (K))) ([(0, (V.int .i64 i0)), (3, (V.ref 1003 0)), (4, (V.int .i64 i1)), (5, (V.int IntKind.u64 i2))], ⟨[(1003, (Blk.vec T_uint8 l3 false))], [], [], [], none⟩)
theorem L1_1_1_1_1_0_0_eq (i0 i1 i2 : Int) (l3 : List (List V)) : L1_1_1_1_1_0_0 i0 i1 i2 l3 =
  (if (((0 : Int) <= (IntKind.wrap .i64 (i1 - (1 : Int)))) ∧ (((IntKind.wrap .i64 (i1 - (1 : Int))) < ((20 : Nat) : Int)) ∧ ((IntKind.wrap .i64 (i1 - (1 : Int))) < (l3.length : Int)))) then (bif ((IntKind.wrap IntKind.u64 (Int.tdiv i2 (10 : Int))) == (0 : Int)) then (bif (decide (i0 < (0 : Int))) then (if (((0 : Int) <= (IntKind.wrap .i64 ((IntKind.wrap .i64 (i1 - (1 : Int))) - (1 : Int)))) ∧ (((IntKind.wrap .i64 ((IntKind.wrap .i64 (i1 - (1 : Int))) - (1 : Int))) < ((20 : Nat) : Int)) ∧ ((IntKind.wrap .i64 ((IntKind.wrap .i64 (i1 - (1 : Int))) - (1 : Int))) < (((List.length (List.set l3 (Int.toNat (IntKind.wrap .i64 (i1 - (1 : Int)))) [V.int IntKind.u8 (IntKind.wrap IntKind.u8 (IntKind.wrap IntKind.u64 ((48 : Int) + (Int.tmod i2 (10 : Int)))))])) : Nat) : Int)))) then (if ((0 : Int) <= (IntKind.wrap .i64 ((IntKind.wrap .i64 (i1 - (1 : Int))) - (1 : Int)))) then (if (((Int.toNat (IntKind.wrap .i64 ((IntKind.wrap .i64 (i1 - (1 : Int))) - (1 : Int)))) <= 20) ∧ ((List.length (List.set (List.set l3 (Int.toNat (IntKind.wrap .i64 (i1 - (1 : Int)))) [V.int IntKind.u8 (IntKind.wrap IntKind.u8 (IntKind.wrap IntKind.u64 ((48 : Int) + (Int.tmod i2 (10 : Int)))))]) (Int.toNat (IntKind.wrap .i64 ((IntKind.wrap .i64 (i1 - (1 : Int))) - (1 : Int)))) [V.int IntKind.u8 (45 : Int)])) = 20)) then (if (((bytesOk (List.take (20 - (Int.toNat (IntKind.wrap .i64 ((IntKind.wrap .i64 (i1 - (1 : Int))) - (1 : Int))))) (List.drop (Int.toNat (IntKind.wrap .i64 ((IntKind.wrap .i64 (i1 - (1 : Int))) - (1 : Int)))) (List.set (List.set l3 (Int.toNat (IntKind.wrap .i64 (i1 - (1 : Int)))) [V.int IntKind.u8 (IntKind.wrap IntKind.u8 (IntKind.wrap IntKind.u64 ((48 : Int) + (Int.tmod i2 (10 : Int)))))]) (Int.toNat (IntKind.wrap .i64 ((IntKind.wrap .i64 (i1 - (1 : Int))) - (1 : Int)))) [V.int IntKind.u8 (45 : Int)])))) = true) ∧ (((Int.toNat (IntKind.wrap .i64 ((IntKind.wrap .i64 (i1 - (1 : Int))) - (1 : Int)))) + (20 - (Int.toNat (IntKind.wrap .i64 ((IntKind.wrap .i64 (i1 - (1 : Int))) - (1 : Int)))))) <= (List.length (List.set (List.set l3 (Int.toNat (IntKind.wrap .i64 (i1 - (1 : Int)))) [V.int IntKind.u8 (IntKind.wrap IntKind.u8 (IntKind.wrap IntKind.u64 ((48 : Int) + (Int.tmod i2 (10 : Int)))))]) (Int.toNat (IntKind.wrap .i64 ((IntKind.wrap .i64 (i1 - (1 : Int))) - (1 : Int)))) [V.int IntKind.u8 (45 : Int)])))) then (some ⟨Out.ret (V.str (ByteArray.mk (toBytes (List.take (20 - (Int.toNat (IntKind.wrap .i64 ((IntKind.wrap .i64 (i1 - (1 : Int))) - (1 : Int))))) (List.drop (Int.toNat (IntKind.wrap .i64 ((IntKind.wrap .i64 (i1 - (1 : Int))) - (1 : Int)))) (List.set (List.set l3 (Int.toNat (IntKind.wrap .i64 (i1 - (1 : Int)))) [V.int IntKind.u8 (IntKind.wrap IntKind.u8 (IntKind.wrap IntKind.u64 ((48 : Int) + (Int.tmod i2 (10 : Int)))))]) (Int.toNat (IntKind.wrap .i64 ((IntKind.wrap .i64 (i1 - (1 : Int))) - (1 : Int)))) [V.int IntKind.u8 (45 : Int)])))).toArray)), [], none⟩) else none) else none) else none) else none) else (if ((0 : Int) <= (IntKind.wrap .i64 (i1 - (1 : Int)))) then (if (((Int.toNat (IntKind.wrap .i64 (i1 - (1 : Int)))) <= 20) ∧ ((List.length (List.set l3 (Int.toNat (IntKind.wrap .i64 (i1 - (1 : Int)))) [V.int IntKind.u8 (IntKind.wrap IntKind.u8 (IntKind.wrap IntKind.u64 ((48 : Int) + (Int.tmod i2 (10 : Int)))))])) = 20)) then (if (((bytesOk (List.take (20 - (Int.toNat (IntKind.wrap .i64 (i1 - (1 : Int))))) (List.drop (Int.toNat (IntKind.wrap .i64 (i1 - (1 : Int)))) (List.set l3 (Int.toNat (IntKind.wrap .i64 (i1 - (1 : Int)))) [V.int IntKind.u8 (IntKind.wrap IntKind.u8 (IntKind.wrap IntKind.u64 ((48 : Int) + (Int.tmod i2 (10 : Int)))))])))) = true) ∧ (((Int.toNat (IntKind.wrap .i64 (i1 - (1 : Int)))) + (20 - (Int.toNat (IntKind.wrap .i64 (i1 - (1 : Int)))))) <= (List.length (List.set l3 (Int.toNat (IntKind.wrap .i64 (i1 - (1 : Int)))) [V.int IntKind.u8 (IntKind.wrap IntKind.u8 (IntKind.wrap IntKind.u64 ((48 : Int) + (Int.tmod i2 (10 : Int)))))])))) then (some ⟨Out.ret (V.str (ByteArray.mk (toBytes (List.take (20 - (Int.toNat (IntKind.wrap .i64 (i1 - (1 : Int))))) (List.drop (Int.toNat (IntKind.wrap .i64 (i1 - (1 : Int)))) (List.set l3 (Int.toNat (IntKind.wrap .i64 (i1 - (1 : Int)))) [V.int IntKind.u8 (IntKind.wrap IntKind.u8 (IntKind.wrap IntKind.u64 ((48 : Int) + (Int.tmod i2 (10 : Int)))))])))).toArray)), [], none⟩) else none) else none) else none)) else (L1_1_1_1_1_0_0 i0 (IntKind.wrap .i64 (i1 - (1 : Int))) (IntKind.wrap IntKind.u64 (Int.tdiv i2 (10 : Int))) (List.set l3 (Int.toNat (IntKind.wrap .i64 (i1 - (1 : Int)))) [V.int IntKind.u8 (IntKind.wrap IntKind.u8 (IntKind.wrap IntKind.u64 ((48 : Int) + (Int.tmod i2 (10 : Int)))))]))) else none) := (LP_eq ..).trans (by kernel_rfl)
theorem eq (a0 : Int) : den Sp id [V.int .i64 a0] [] none =
  (bif (decide (a0 < (0 : Int))) then (L1_1_1_1_1_0_0 a0 (20 : Int) (IntKind.wrap IntKind.u64 ((0 : Int) - (IntKind.wrap IntKind.u64 a0))) [[V.int IntKind.u8 (0 : Int)], [V.int IntKind.u8 (0 : Int)], [V.int IntKind.u8 (0 : Int)], [V.int IntKind.u8 (0 : Int)], [V.int IntKind.u8 (0 : Int)], [V.int IntKind.u8 (0 : Int)], [V.int IntKind.u8 (0 : Int)], [V.int IntKind.u8 (0 : Int)], [V.int IntKind.u8 (0 : Int)], [V.int IntKind.u8 (0 : Int)], [V.int IntKind.u8 (0 : Int)], [V.int IntKind.u8 (0 : Int)], [V.int IntKind.u8 (0 : Int)], [V.int IntKind.u8 (0 : Int)], [V.int IntKind.u8 (0 : Int)], [V.int IntKind.u8 (0 : Int)], [V.int IntKind.u8 (0 : Int)], [V.int IntKind.u8 (0 : Int)], [V.int IntKind.u8 (0 : Int)], [V.int IntKind.u8 (0 : Int)]]) else (L1_1_1_1_1_0_0 a0 (20 : Int) (IntKind.wrap IntKind.u64 a0) [[V.int IntKind.u8 (0 : Int)], [V.int IntKind.u8 (0 : Int)], [V.int IntKind.u8 (0 : Int)], [V.int IntKind.u8 (0 : Int)], [V.int IntKind.u8 (0 : Int)], [V.int IntKind.u8 (0 : Int)], [V.int IntKind.u8 (0 : Int)], [V.int IntKind.u8 (0 : Int)], [V.int IntKind.u8 (0 : Int)], [V.int IntKind.u8 (0 : Int)], [V.int IntKind.u8 (0 : Int)], [V.int IntKind.u8 (0 : Int)], [V.int IntKind.u8 (0 : Int)], [V.int IntKind.u8 (0 : Int)], [V.int IntKind.u8 (0 : Int)], [V.int IntKind.u8 (0 : Int)], [V.int IntKind.u8 (0 : Int)], [V.int IntKind.u8 (0 : Int)], [V.int IntKind.u8 (0 : Int)], [V.int IntKind.u8 (0 : Int)]])) := (den_eq ..).trans (by kernel_rfl)
end num_Text
namespace lex_Scan
noncomputable abbrev e (p : List Nat) := ev Sp (den Sp) id Tryz.f40.ntmps (cAt (bodyOf Tryz.f40) p)
noncomputable abbrev cn (n0 : List Nat) := canon Sp id n0
noncomputable abbrev K : K := kFin Sp (den Sp) (Sp.oo id) Tryz.f40 0
noncomputable def L1_1_1_1_0 (l0 : List (List V)) (s1 : ByteArray) (i2 : Int) : Option Res := LP (e [1, 1, 1, 1, 0, 0]) (cn [1015]) (kBlk 0 (K)) ([(5, (V.ref 1015 0)), (6, (V.sl (Tok.row 0) T_api_Token l0))], ⟨[(1015, (Blk.cells T_lex_reader [V.str s1, V.int .i64 i2] false))], [0], [], [], none⟩)
theorem L1_1_1_1_0_eq (l0 : List (List V)) (s1 : ByteArray) (i2 : Int) : L1_1_1_1_0 l0 s1 i2 =
  (den Sp lex_reader_blank.id [V.ref 0 0] [Blk.cells T_lex_reader [V.str s1, V.int .i64 i2] false] none).bind (fun r9 => Blk.asCells (List.getD (Res.bl r9) 0 (Blk.cells T_n0 [] true)) T_lex_reader 2 (fun rd10 => V.asStr (rd10 0) (fun s11 => V.asInt (rd10 1) .i64 (fun n12 => Res.onRet r9 (fun v13 => V.asTup v13 0 (fun rd14 => (den Sp lex_reader_next.id [V.ref 0 0] [Blk.cells T_lex_reader [V.str s11, V.int .i64 n12] false] none).bind (fun r17 => Blk.asCells (List.getD (Res.bl r17) 0 (Blk.cells T_n0 [] true)) T_lex_reader 2 (fun rd18 => V.asStr (rd18 0) (fun s19 => V.asInt (rd18 1) .i64 (fun n20 => Res.onRet r17 (fun v21 => V.asTup v21 2 (fun rd22 => V.asAgg (rd22 0) 4 (fun rd23 => V.asInt (rd23 0) .i64 (fun n24 => V.asStr (rd23 1) (fun s25 => V.asInt (rd23 2) .i64 (fun n26 => V.asInt (rd23 3) .i64 (fun n27 => V.asBool (rd22 1) (fun b28 => bif (!b28) then (some ⟨Out.ret (V.tup [V.sl .no T_api_Token [], V.int .i64 n12, V.int .i64 (20 : Int)]), [], none⟩) else (bif ((l0.length : Int) == (4000 : Int)) then (some ⟨Out.ret (V.tup [V.sl .no T_api_Token [], V.int .i64 n12, V.int .i64 (2 : Int)]), [], none⟩) else (if (((List.length l0) + (List.length [[V.int .i64 n24, V.str s25, V.int .i64 n26, V.int .i64 n27]])) <= most) then (bif (n24 == (0 : Int)) then (some ⟨Out.ret (V.tup [V.sl .no T_api_Token (l0 ++ [[V.int .i64 n24, V.str s25, V.int .i64 n26, V.int .i64 n27]]), V.int .i64 (0 : Int), V.int .i64 (0 : Int)]), [], none⟩) else (L1_1_1_1_0 (l0 ++ [[V.int .i64 n24, V.str s25, V.int .i64 n26, V.int .i64 n27]]) s19 n20)) else none)))))))))))))))))))) := (LP_eq ..).trans (by kernel_rfl)
theorem eq (a0 : ByteArray) : den Sp id [V.str a0] [] none =
  (bif (decide ((((ByteArray.size a0) : Nat) : Int) > (16384 : Int))) then (some ⟨Out.ret (V.tup [V.sl .no T_api_Token [], V.int .i64 (0 : Int), V.int .i64 (2 : Int)]), [], none⟩) else (L1_1_1_1_0 [] a0 (0 : Int))) := (den_eq ..).trans (by kernel_rfl)
end lex_Scan
namespace lex_reader_blank
noncomputable abbrev e (p : List Nat) := ev Sp (den Sp) id Tryz.f70.ntmps (cAt (bodyOf Tryz.f70) p)
noncomputable abbrev cn (n0 : List Nat) := canon Sp id n0
noncomputable abbrev K : K := kFin Sp (den Sp) (Sp.oo id) Tryz.f70 1
noncomputable def L0 (s0 : ByteArray) (i1 : Int) : Option Res := LP (e [0, 0]) (cn [0]) (kBlk 0 (K)) ([(0, (V.ref 0 0))], ⟨[(0, (Blk.cells T_lex_reader [V.str s0, V.int .i64 i1] false))], [], [], [], none⟩)
noncomputable def L0_0_1_0_1_0_1_1_1_0_0 (s0 : ByteArray) (i1 : Int) : Option Res := LP (e [0, 0, 1, 0, 1, 0, 1, 1, 1, 0, 0, 0]) (cn [0]) (kBlk 3 (kBlk 2 (kBlk 1 (kLp (e [0, 0]) (cn [0]) (kBlk 0 (K)))))) ([(0, (V.ref 0 0))], ⟨[(0, (Blk.cells T_lex_reader [V.str s0, V.int .i64 i1] false))], [], [], [], none⟩)
theorem L0_eq (s0 : ByteArray) (i1 : Int) : L0 s0 i1 =
  (bif (decide (i1 < (((ByteArray.size s0) : Nat) : Int))) then (if (((0 : Int) <= i1) ∧ (i1 < (((ByteArray.size s0) : Nat) : Int))) then (bif ((byteAt s0 (Int.toNat i1)) == (32 : Int)) then (L0 s0 (IntKind.wrap .i64 (i1 + (1 : Int)))) else (bif ((byteAt s0 (Int.toNat i1)) == (10 : Int)) then (L0 s0 (IntKind.wrap .i64 (i1 + (1 : Int)))) else (bif ((byteAt s0 (Int.toNat i1)) == (35 : Int)) then (L0_0_1_0_1_0_1_1_1_0_0 s0 i1) else (some ⟨Out.ret (V.tup []), [Blk.cells T_lex_reader [V.str s0, V.int .i64 i1] false], none⟩)))) else none) else (some ⟨Out.ret (V.tup []), [Blk.cells T_lex_reader [V.str s0, V.int .i64 i1] false], none⟩)) := (LP_eq ..).trans (by kernel_rfl)
theorem L0_0_1_0_1_0_1_1_1_0_0_eq (s0 : ByteArray) (i1 : Int) : L0_0_1_0_1_0_1_1_1_0_0 s0 i1 =
  (bif (decide (i1 < (((ByteArray.size s0) : Nat) : Int))) then (if (((0 : Int) <= i1) ∧ (i1 < (((ByteArray.size s0) : Nat) : Int))) then (bif ((byteAt s0 (Int.toNat i1)) != (10 : Int)) then (L0_0_1_0_1_0_1_1_1_0_0 s0 (IntKind.wrap .i64 (i1 + (1 : Int)))) else (L0 s0 i1)) else none) else (L0 s0 i1)) := (LP_eq ..).trans (by kernel_rfl)
theorem eq (m0_0 : ByteArray) (m0_1 : Int) : den Sp id [V.ref 0 0] [Blk.cells T_lex_reader [V.str m0_0, V.int .i64 m0_1] false] none =
  (L0 m0_0 m0_1) := (den_eq ..).trans (by kernel_rfl)
end lex_reader_blank
namespace lex_reader_next
theorem eq (m0_0 : ByteArray) (m0_1 : Int) : den Sp id [V.ref 0 0] [Blk.cells T_lex_reader [V.str m0_0, V.int .i64 m0_1] false] none =
  (bif (m0_1 == (((ByteArray.size m0_0) : Nat) : Int)) then (some ⟨Out.ret (V.tup [V.agg [V.int .i64 (0 : Int), V.str (ByteArray.mk #[]), V.int .i64 (0 : Int), V.int .i64 m0_1], V.bool true]), [Blk.cells T_lex_reader [V.str m0_0, V.int .i64 m0_1] false], none⟩) else (if (((0 : Int) <= m0_1) ∧ (m0_1 < (((ByteArray.size m0_0) : Nat) : Int))) then (den Sp lex_letter.id [V.int IntKind.u8 (byteAt m0_0 (Int.toNat m0_1))] [] none).bind (fun r7 => Res.onRet r7 (fun v8 => V.asBool v8 (fun b9 => bif b9 then (den Sp lex_reader_word.id [V.ref 0 0] [Blk.cells T_lex_reader [V.str m0_0, V.int .i64 m0_1] false] none).bind (fun r11 => Blk.asCells (List.getD (Res.bl r11) 0 (Blk.cells T_n0 [] true)) T_lex_reader 2 (fun rd12 => V.asStr (rd12 0) (fun s13 => V.asInt (rd12 1) .i64 (fun n14 => Res.onRet r11 (fun v15 => V.asStr v15 (fun s16 => (den Sp lex_isKey.id [V.str s16] [] none).bind (fun r18 => Res.onRet r18 (fun v19 => V.asBool v19 (fun b20 => bif b20 then (some ⟨Out.ret (V.tup [V.agg [V.int .i64 (3 : Int), V.str s16, V.int .i64 (0 : Int), V.int .i64 m0_1], V.bool (decide ((((ByteArray.size s16) : Nat) : Int) <= (40 : Int)))]), [Blk.cells T_lex_reader [V.str s13, V.int .i64 (IntKind.wrap .i64 (n14 + (((ByteArray.size s16) : Nat) : Int)))] false], none⟩) else (some ⟨Out.ret (V.tup [V.agg [V.int .i64 (1 : Int), V.str s16, V.int .i64 (0 : Int), V.int .i64 m0_1], V.bool (decide ((((ByteArray.size s16) : Nat) : Int) <= (40 : Int)))]), [Blk.cells T_lex_reader [V.str s13, V.int .i64 (IntKind.wrap .i64 (n14 + (((ByteArray.size s16) : Nat) : Int)))] false], none⟩)))))))))) else (den Sp lex_digit.id [V.int IntKind.u8 (byteAt m0_0 (Int.toNat m0_1))] [] none).bind (fun r11 => Res.onRet r11 (fun v12 => V.asBool v12 (fun b13 => bif b13 then (den Sp lex_reader_word.id [V.ref 0 0] [Blk.cells T_lex_reader [V.str m0_0, V.int .i64 m0_1] false] none).bind (fun r15 => Blk.asCells (List.getD (Res.bl r15) 0 (Blk.cells T_n0 [] true)) T_lex_reader 2 (fun rd16 => V.asStr (rd16 0) (fun s17 => V.asInt (rd16 1) .i64 (fun n18 => Res.onRet r15 (fun v19 => V.asStr v19 (fun s20 => (den Sp num_Parse.id [V.str s20] [] none).bind (fun r22 => Res.onRet r22 (fun v23 => V.asTup v23 2 (fun rd24 => V.asInt (rd24 0) .i64 (fun n25 => V.asInt (rd24 1) .i64 (fun n26 => some ⟨Out.ret (V.tup [V.agg [V.int .i64 (2 : Int), V.str (ByteArray.mk #[]), V.int .i64 n25, V.int .i64 m0_1], V.bool (n26 == (0 : Int))]), [Blk.cells T_lex_reader [V.str s17, V.int .i64 (IntKind.wrap .i64 (n18 + (((ByteArray.size s20) : Nat) : Int)))] false], none⟩))))))))))) else (if ((0 : Int) <= m0_1) then (if (((Int.toNat m0_1) <= (ByteArray.size m0_0)) ∧ ((ByteArray.size m0_0) <= (ByteArray.size m0_0))) then (den Sp lex_sign.id [V.str (ByteArray.extract m0_0 (Int.toNat m0_1) (ByteArray.size m0_0))] [] none).bind (fun r15 => Res.onRet r15 (fun v16 => V.asStr v16 (fun s17 => some ⟨Out.ret (V.tup [V.agg [V.int .i64 (4 : Int), V.str s17, V.int .i64 (0 : Int), V.int .i64 m0_1], V.bool (!(decide (s17 = (ByteArray.mk #[]))))]), [Blk.cells T_lex_reader [V.str m0_0, V.int .i64 (IntKind.wrap .i64 (m0_1 + (((ByteArray.size s17) : Nat) : Int)))] false], none⟩))) else none) else none))))))) else none)) := (den_eq ..).trans (by kernel_rfl)
end lex_reader_next
namespace lex_reader_word
noncomputable abbrev e (p : List Nat) := ev Sp (den Sp) id Tryz.f118.ntmps (cAt (bodyOf Tryz.f118) p)
noncomputable abbrev cn (n0 : List Nat) := canon Sp id n0
noncomputable abbrev K : K := kFin Sp (den Sp) (Sp.oo id) Tryz.f118 1
noncomputable def L1_1_0_0 (i0 : Int) (s1 : ByteArray) (i2 : Int) : Option Res := LP (e [1, 1, 0, 0, 0]) (cn [0]) (kBlk 0 (kSeq (e [1, 1, 1]) (K))) ([(0, (V.ref 0 0)), (3, (V.int .i64 i0))], ⟨[(0, (Blk.cells T_lex_reader [V.str s1, V.int .i64 i2] false))], [], [], [], none⟩)
theorem L1_1_0_0_eq (i0 : Int) (s1 : ByteArray) (i2 : Int) : L1_1_0_0 i0 s1 i2 =
  (bif (decide (i0 < (((ByteArray.size s1) : Nat) : Int))) then (if (((0 : Int) <= i0) ∧ (i0 < (((ByteArray.size s1) : Nat) : Int))) then (den Sp lex_inner.id [V.int IntKind.u8 (byteAt s1 (Int.toNat i0))] [] none).bind (fun r8 => Res.onRet r8 (fun v9 => V.asBool v9 (fun b10 => bif b10 then (L1_1_0_0 (IntKind.wrap .i64 (i0 + (1 : Int))) s1 i2) else (if ((0 : Int) <= i2) then (if ((0 : Int) <= i0) then (if (((Int.toNat i2) <= (Int.toNat i0)) ∧ ((Int.toNat i0) <= (ByteArray.size s1))) then (some ⟨Out.ret (V.str (ByteArray.extract s1 (Int.toNat i2) (Int.toNat i0))), [Blk.cells T_lex_reader [V.str s1, V.int .i64 i2] false], none⟩) else none) else none) else none)))) else none) else (if ((0 : Int) <= i2) then (if ((0 : Int) <= i0) then (if (((Int.toNat i2) <= (Int.toNat i0)) ∧ ((Int.toNat i0) <= (ByteArray.size s1))) then (some ⟨Out.ret (V.str (ByteArray.extract s1 (Int.toNat i2) (Int.toNat i0))), [Blk.cells T_lex_reader [V.str s1, V.int .i64 i2] false], none⟩) else none) else none) else none)) := (LP_eq ..).trans (by kernel_rfl)
theorem eq (m0_0 : ByteArray) (m0_1 : Int) : den Sp id [V.ref 0 0] [Blk.cells T_lex_reader [V.str m0_0, V.int .i64 m0_1] false] none =
  (L1_1_0_0 m0_1 m0_0 m0_1) := (den_eq ..).trans (by kernel_rfl)
end lex_reader_word
namespace lex_sign
noncomputable abbrev e (p : List Nat) := ev Sp (den Sp) id Tryz.f121.ntmps (cAt (bodyOf Tryz.f121) p)
noncomputable abbrev cn (n0 : List Nat) := canon Sp id n0
noncomputable abbrev K : K := kFin Sp (den Sp) (Sp.oo id) Tryz.f121 0
noncomputable def L1_0_1_1_0_1_0 (s0 : ByteArray) (i1 : Int) : Option Res := LP (e [1, 0, 1, 1, 0, 1, 0, 0]) (cn []) (kBlk 0 (kSeq (e [1, 0, 1, 1, 1]) (K))) ([(0, (V.str s0)), (3, (V.str (ByteArray.mk #[]))), (6, (V.agg [V.str (ByteArray.mk #[61, 61]), V.str (ByteArray.mk #[33, 61]), V.str (ByteArray.mk #[60, 61]), V.str (ByteArray.mk #[38, 38]), V.str (ByteArray.mk #[124, 124]), V.str (ByteArray.mk #[40]), V.str (ByteArray.mk #[41]), V.str (ByteArray.mk #[123]), V.str (ByteArray.mk #[125]), V.str (ByteArray.mk #[91]), V.str (ByteArray.mk #[93]), V.str (ByteArray.mk #[44]), V.str (ByteArray.mk #[59]), V.str (ByteArray.mk #[61]), V.str (ByteArray.mk #[60]), V.str (ByteArray.mk #[33]), V.str (ByteArray.mk #[43]), V.str (ByteArray.mk #[45]), V.str (ByteArray.mk #[42]), V.str (ByteArray.mk #[47]), V.str (ByteArray.mk #[37])])), (7, (V.int .i64 i1))], ⟨[], [], [], [], none⟩)
theorem L1_0_1_1_0_1_0_eq (s0 : ByteArray) (i1 : Int) : L1_0_1_1_0_1_0 s0 i1 =
  (bif (decide (i1 < (21 : Int))) then (if (((0 : Int) <= i1) ∧ (i1 < ((21 : Nat) : Int))) then (V.asStr (List.getD [V.str (ByteArray.mk #[61, 61]), V.str (ByteArray.mk #[33, 61]), V.str (ByteArray.mk #[60, 61]), V.str (ByteArray.mk #[38, 38]), V.str (ByteArray.mk #[124, 124]), V.str (ByteArray.mk #[40]), V.str (ByteArray.mk #[41]), V.str (ByteArray.mk #[123]), V.str (ByteArray.mk #[125]), V.str (ByteArray.mk #[91]), V.str (ByteArray.mk #[93]), V.str (ByteArray.mk #[44]), V.str (ByteArray.mk #[59]), V.str (ByteArray.mk #[61]), V.str (ByteArray.mk #[60]), V.str (ByteArray.mk #[33]), V.str (ByteArray.mk #[43]), V.str (ByteArray.mk #[45]), V.str (ByteArray.mk #[42]), V.str (ByteArray.mk #[47]), V.str (ByteArray.mk #[37])] (((Int.toNat i1) * 1) + 0) V.undef) (fun s8 => bif (decide ((((ByteArray.size s8) : Nat) : Int) <= (((ByteArray.size s0) : Nat) : Int))) then (if ((0 <= (Int.toNat (((ByteArray.size s8) : Nat) : Int))) ∧ ((Int.toNat (((ByteArray.size s8) : Nat) : Int)) <= (ByteArray.size s0))) then (bif (decide ((ByteArray.extract s0 0 (Int.toNat (((ByteArray.size s8) : Nat) : Int))) = s8)) then (some ⟨Out.ret (V.str s8), [], none⟩) else (L1_0_1_1_0_1_0 s0 (IntKind.wrap .i64 (i1 + (1 : Int))))) else none) else (L1_0_1_1_0_1_0 s0 (IntKind.wrap .i64 (i1 + (1 : Int)))))) else none) else (some ⟨Out.ret (V.str (ByteArray.mk #[])), [], none⟩)) := (LP_eq ..).trans (by kernel_rfl)
theorem eq (a0 : ByteArray) : den Sp id [V.str a0] [] none =
  (L1_0_1_1_0_1_0 a0 (0 : Int)) := (den_eq ..).trans (by kernel_rfl)
end lex_sign
namespace num_Parse
noncomputable abbrev e (p : List Nat) := ev Sp (den Sp) id Tryz.f120.ntmps (cAt (bodyOf Tryz.f120) p)
noncomputable abbrev cn (n0 : List Nat) := canon Sp id n0
noncomputable abbrev K : K := kFin Sp (den Sp) (Sp.oo id) Tryz.f120 0
noncomputable def L1_0_1_1_1_1_1_0_1_0 (s0 : ByteArray) (i1 i2 : Int) : Option Res := LP (e [1, 0, 1, 1, 1, 1, 1, 0, 1, 0, 0]) (cn []) (kBlk 0 (kSeq (e [1, 0, 1, 1, 1, 1, 1, 1]) (K))) ([(4, (V.str s0)), (5, (V.bool true)), (6, (V.int IntKind.u64 i1)), (7, (V.bool true)), (8, (V.int .i64 i2))], ⟨[], [], [], [], none⟩)
noncomputable def L1_0_1_1_1_1_1_0_1_0v1 (s0 : ByteArray) (i1 : Int) (b2 : Bool) (i3 : Int) : Option Res := LP (e [1, 0, 1, 1, 1, 1, 1, 0, 1, 0, 0]) (cn []) (kBlk 0 (kSeq (e [1, 0, 1, 1, 1, 1, 1, 1]) (K))) ([(4, (V.str s0)), (5, (V.bool true)), (6, (V.int IntKind.u64 i1)), (7, (V.bool b2)), (8, (V.int .i64 i3))], ⟨[], [], [], [], none⟩)
noncomputable def L1_0_1_1_1_1_1_0_1_0v2 (s0 : ByteArray) (i1 i2 : Int) : Option Res := LP (e [1, 0, 1, 1, 1, 1, 1, 0, 1, 0, 0]) (cn []) (kBlk 0 (kSeq (e [1, 0, 1, 1, 1, 1, 1, 1]) (K))) ([(4, (V.str s0)), (5, (V.bool false)), (6, (V.int IntKind.u64 i1)), (7, (V.bool true)), (8, (V.int .i64 i2))], ⟨[], [], [], [], none⟩)
noncomputable def L1_0_1_1_1_1_1_0_1_0v3 (s0 : ByteArray) (i1 : Int) (b2 : Bool) (i3 : Int) : Option Res := LP (e [1, 0, 1, 1, 1, 1, 1, 0, 1, 0, 0]) (cn []) (kBlk 0 (kSeq (e [1, 0, 1, 1, 1, 1, 1, 1]) (K))) ([(4, (V.str s0)), (5, (V.bool false)), (6, (V.int IntKind.u64 i1)), (7, (V.bool b2)), (8, (V.int .i64 i3))], ⟨[], [], [], [], none⟩)
theorem L1_0_1_1_1_1_1_0_1_0v2_eq (s0 : ByteArray) (i1 i2 : Int) : L1_0_1_1_1_1_1_0_1_0v2 s0 i1 i2 =
  (bif (decide (i2 < (((ByteArray.size s0) : Nat) : Int))) then (if (((0 : Int) <= i2) ∧ (i2 < (((ByteArray.size s0) : Nat) : Int))) then (if (((0 : Int) <= i2) ∧ (i2 < (((ByteArray.size s0) : Nat) : Int))) then (bif (decide ((byteAt s0 (Int.toNat i2)) < (48 : Int))) then (some ⟨Out.ret (V.tup [V.int .i64 (0 : Int), V.int .i64 (10 : Int)]), [], none⟩) else (bif (decide ((IntKind.wrap IntKind.u64 ((IntKind.wrap IntKind.u64 (byteAt s0 (Int.toNat i2))) - (48 : Int))) > (9 : Int))) then (some ⟨Out.ret (V.tup [V.int .i64 (0 : Int), V.int .i64 (10 : Int)]), [], none⟩) else (bif (decide (i1 > (IntKind.wrap IntKind.u64 (Int.tdiv (IntKind.wrap IntKind.u64 ((9223372036854775808 : Int) - (IntKind.wrap IntKind.u64 ((IntKind.wrap IntKind.u64 (byteAt s0 (Int.toNat i2))) - (48 : Int))))) (10 : Int))))) then (some ⟨Out.ret (V.tup [V.int .i64 (0 : Int), V.int .i64 (10 : Int)]), [], none⟩) else (L1_0_1_1_1_1_1_0_1_0v2 s0 (IntKind.wrap IntKind.u64 ((IntKind.wrap IntKind.u64 (i1 * (10 : Int))) + (IntKind.wrap IntKind.u64 ((IntKind.wrap IntKind.u64 (byteAt s0 (Int.toNat i2))) - (48 : Int))))) (IntKind.wrap .i64 (i2 + (1 : Int))))))) else none) else none) else (bif (i1 == (9223372036854775808 : Int)) then (some ⟨Out.ret (V.tup [V.int .i64 (0 : Int), V.int .i64 (10 : Int)]), [], none⟩) else (some ⟨Out.ret (V.tup [V.int .i64 (IntKind.wrap .i64 i1), V.int .i64 (0 : Int)]), [], none⟩))) := (LP_eq ..).trans (by kernel_rfl)
theorem L1_0_1_1_1_1_1_0_1_0v3_eq (s0 : ByteArray) (i1 : Int) (b2 : Bool) (i3 : Int) : L1_0_1_1_1_1_1_0_1_0v3 s0 i1 b2 i3 =
  (bif b2 then (bif (decide (i3 < (((ByteArray.size s0) : Nat) : Int))) then (if (((0 : Int) <= i3) ∧ (i3 < (((ByteArray.size s0) : Nat) : Int))) then (if (((0 : Int) <= i3) ∧ (i3 < (((ByteArray.size s0) : Nat) : Int))) then (bif (decide ((byteAt s0 (Int.toNat i3)) < (48 : Int))) then (some ⟨Out.ret (V.tup [V.int .i64 (0 : Int), V.int .i64 (10 : Int)]), [], none⟩) else (bif (decide ((IntKind.wrap IntKind.u64 ((IntKind.wrap IntKind.u64 (byteAt s0 (Int.toNat i3))) - (48 : Int))) > (9 : Int))) then (some ⟨Out.ret (V.tup [V.int .i64 (0 : Int), V.int .i64 (10 : Int)]), [], none⟩) else (bif (decide (i1 > (IntKind.wrap IntKind.u64 (Int.tdiv (IntKind.wrap IntKind.u64 ((9223372036854775808 : Int) - (IntKind.wrap IntKind.u64 ((IntKind.wrap IntKind.u64 (byteAt s0 (Int.toNat i3))) - (48 : Int))))) (10 : Int))))) then (some ⟨Out.ret (V.tup [V.int .i64 (0 : Int), V.int .i64 (10 : Int)]), [], none⟩) else (L1_0_1_1_1_1_1_0_1_0v3 s0 (IntKind.wrap IntKind.u64 ((IntKind.wrap IntKind.u64 (i1 * (10 : Int))) + (IntKind.wrap IntKind.u64 ((IntKind.wrap IntKind.u64 (byteAt s0 (Int.toNat i3))) - (48 : Int))))) b2 (IntKind.wrap .i64 (i3 + (1 : Int))))))) else none) else none) else (bif (!b2) then (some ⟨Out.ret (V.tup [V.int .i64 (0 : Int), V.int .i64 (10 : Int)]), [], none⟩) else (bif (i1 == (9223372036854775808 : Int)) then (some ⟨Out.ret (V.tup [V.int .i64 (0 : Int), V.int .i64 (10 : Int)]), [], none⟩) else (some ⟨Out.ret (V.tup [V.int .i64 (IntKind.wrap .i64 i1), V.int .i64 (0 : Int)]), [], none⟩)))) else (bif (!b2) then (some ⟨Out.ret (V.tup [V.int .i64 (0 : Int), V.int .i64 (10 : Int)]), [], none⟩) else (bif (i1 == (9223372036854775808 : Int)) then (some ⟨Out.ret (V.tup [V.int .i64 (0 : Int), V.int .i64 (10 : Int)]), [], none⟩) else (some ⟨Out.ret (V.tup [V.int .i64 (IntKind.wrap .i64 i1), V.int .i64 (0 : Int)]), [], none⟩)))) := (LP_eq ..).trans (by kernel_rfl)
theorem eq (a0 : ByteArray) : den Sp id [V.str a0] [] none =
  (bif (!(decide (a0 = (ByteArray.mk #[])))) then (if (((0 : Int) <= (0 : Int)) ∧ ((0 : Int) < (((ByteArray.size a0) : Nat) : Int))) then (bif ((byteAt a0 0) == (45 : Int)) then (if ((1 <= (ByteArray.size a0)) ∧ ((ByteArray.size a0) <= (ByteArray.size a0))) then (bif (!(decide ((ByteArray.extract a0 1 (ByteArray.size a0)) = (ByteArray.mk #[])))) then (if (((0 : Int) <= (0 : Int)) ∧ ((0 : Int) < (((ByteArray.size (ByteArray.extract a0 1 (ByteArray.size a0))) : Nat) : Int))) then (bif ((byteAt (ByteArray.extract a0 1 (ByteArray.size a0)) 0) != (48 : Int)) then (L1_0_1_1_1_1_1_0_1_0 (ByteArray.extract a0 1 (ByteArray.size a0)) (0 : Int) (0 : Int)) else (L1_0_1_1_1_1_1_0_1_0v1 (ByteArray.extract a0 1 (ByteArray.size a0)) (0 : Int) ((((ByteArray.size a0) : Nat) : Int) == (1 : Int)) (0 : Int))) else none) else (L1_0_1_1_1_1_1_0_1_0v1 (ByteArray.extract a0 1 (ByteArray.size a0)) (0 : Int) false (0 : Int))) else none) else (bif (!(decide (a0 = (ByteArray.mk #[])))) then (if (((0 : Int) <= (0 : Int)) ∧ ((0 : Int) < (((ByteArray.size a0) : Nat) : Int))) then (bif ((byteAt a0 0) != (48 : Int)) then (L1_0_1_1_1_1_1_0_1_0v2 a0 (0 : Int) (0 : Int)) else (L1_0_1_1_1_1_1_0_1_0v3 a0 (0 : Int) ((((ByteArray.size a0) : Nat) : Int) == (1 : Int)) (0 : Int))) else none) else (L1_0_1_1_1_1_1_0_1_0v3 a0 (0 : Int) false (0 : Int)))) else none) else (bif (!(decide (a0 = (ByteArray.mk #[])))) then (if (((0 : Int) <= (0 : Int)) ∧ ((0 : Int) < (((ByteArray.size a0) : Nat) : Int))) then (bif ((byteAt a0 0) != (48 : Int)) then (L1_0_1_1_1_1_1_0_1_0v2 a0 (0 : Int) (0 : Int)) else (L1_0_1_1_1_1_1_0_1_0v3 a0 (0 : Int) ((((ByteArray.size a0) : Nat) : Int) == (1 : Int)) (0 : Int))) else none) else (L1_0_1_1_1_1_1_0_1_0v3 a0 (0 : Int) false (0 : Int)))) := (den_eq ..).trans (by kernel_rfl)
end num_Parse
namespace lex_Right
noncomputable abbrev e (p : List Nat) := ev Sp (den Sp) id Tryz.f161.ntmps (cAt (bodyOf Tryz.f161) p)
noncomputable abbrev cn (n0 : List Nat) := canon Sp id n0
noncomputable abbrev K : K := kFin Sp (den Sp) (Sp.oo id) Tryz.f161 0
noncomputable def L1_0_1_0 (l0 l1 : List (List V)) (i2 i3 : Int) : Option Res := LP (e [1, 0, 1, 0, 0]) (cn []) (kBlk 0 (kSeq (e [1, 1]) (K))) ([(0, (V.sl .no T_api_Token l0)), (7, (V.sl .no T_api_Token l1)), (8, (V.int .i64 i2)), (9, (V.int .i64 i3))], ⟨[], [], [], [], none⟩)
theorem L1_0_1_0_eq (l0 l1 : List (List V)) (i2 i3 : Int) : L1_0_1_0 l0 l1 i2 i3 =
  (bif (decide (i3 < i2)) then (if (((0 : Int) <= i3) ∧ (i3 < (l1.length : Int))) then (V.asInt (List.getD (List.getD l1 (Int.toNat i3) []) 0 V.undef) .i64 (fun n9 => V.asStr (List.getD (List.getD l1 (Int.toNat i3) []) 1 V.undef) (fun s10 => V.asInt (List.getD (List.getD l1 (Int.toNat i3) []) 2 V.undef) .i64 (fun n11 => V.asInt (List.getD (List.getD l1 (Int.toNat i3) []) 3 V.undef) .i64 (fun n12 => bif (i3 == (IntKind.wrap .i64 ((l0.length : Int) - (1 : Int)))) then (bif (n9 == (0 : Int)) then (bif (decide (s10 = (ByteArray.mk #[]))) then (some ⟨Out.ret (V.bool (n11 == (0 : Int))), [], none⟩) else (some ⟨Out.ret (V.bool false), [], none⟩)) else (some ⟨Out.ret (V.bool false), [], none⟩)) else (den Sp lex_written.id [V.agg [V.int .i64 n9, V.str s10, V.int .i64 n11, V.int .i64 n12]] [] none).bind (fun r15 => Res.onRet r15 (fun v16 => V.asTup v16 2 (fun rd17 => V.asStr (rd17 0) (fun s18 => V.asBool (rd17 1) (fun b19 => bif (!b19) then (some ⟨Out.ret (V.bool false), [], none⟩) else (L1_0_1_0 l0 l1 i2 (IntKind.wrap .i64 (i3 + (1 : Int)))))))))))))) else none) else (some ⟨Out.ret (V.bool false), [], none⟩)) := (LP_eq ..).trans (by kernel_rfl)
theorem eq (a0 : (List (List V))) : den Sp id [V.sl .no T_api_Token a0] [] none =
  (L1_0_1_0 a0 a0 (a0.length : Int) (0 : Int)) := (den_eq ..).trans (by kernel_rfl)
end lex_Right
namespace lex_written
theorem eq (a0_0 : Int) (a0_1 : ByteArray) (a0_2 a0_3 : Int) : den Sp id [V.agg [V.int .i64 a0_0, V.str a0_1, V.int .i64 a0_2, V.int .i64 a0_3]] [] none =
  (bif (a0_0 == (1 : Int)) then (bif (a0_2 == (0 : Int)) then (den Sp lex_IsName.id [V.str a0_1] [] none).bind (fun r8 => Res.onRet r8 (fun v9 => V.asBool v9 (fun b10 => some ⟨Out.ret (V.tup [V.str a0_1, V.bool b10]), [], none⟩))) else (some ⟨Out.ret (V.tup [V.str a0_1, V.bool false]), [], none⟩)) else (bif (a0_0 == (3 : Int)) then (bif (a0_2 == (0 : Int)) then (den Sp lex_isKey.id [V.str a0_1] [] none).bind (fun r9 => Res.onRet r9 (fun v10 => V.asBool v10 (fun b11 => some ⟨Out.ret (V.tup [V.str a0_1, V.bool b11]), [], none⟩))) else (some ⟨Out.ret (V.tup [V.str a0_1, V.bool false]), [], none⟩)) else (bif (a0_0 == (4 : Int)) then (bif (a0_2 == (0 : Int)) then (bif (!(decide (a0_1 = (ByteArray.mk #[])))) then (den Sp lex_sign.id [V.str a0_1] [] none).bind (fun r10 => Res.onRet r10 (fun v11 => V.asStr v11 (fun s12 => some ⟨Out.ret (V.tup [V.str a0_1, V.bool (decide (s12 = a0_1))]), [], none⟩))) else (some ⟨Out.ret (V.tup [V.str a0_1, V.bool false]), [], none⟩)) else (some ⟨Out.ret (V.tup [V.str a0_1, V.bool false]), [], none⟩)) else (bif (a0_0 == (2 : Int)) then (den Sp num_Text.id [V.int .i64 a0_2] [] none).bind (fun r11 => Res.onRet r11 (fun v12 => V.asStr v12 (fun s13 => bif (decide (a0_1 = (ByteArray.mk #[]))) then (some ⟨Out.ret (V.tup [V.str s13, V.bool (decide (a0_2 >= (0 : Int)))]), [], none⟩) else (some ⟨Out.ret (V.tup [V.str s13, V.bool false]), [], none⟩)))) else (some ⟨Out.ret (V.tup [V.str (ByteArray.mk #[]), V.bool false]), [], none⟩))))) := (den_eq ..).trans (by kernel_rfl)
end lex_written
namespace ref02_Blank
noncomputable abbrev e (p : List Nat) := ev Sp (den Sp) id Tryz.f86.ntmps (cAt (bodyOf Tryz.f86) p)
noncomputable abbrev cn (n0 : List Nat) := canon Sp id n0
noncomputable abbrev K : K := kFin Sp (den Sp) (Sp.oo id) Tryz.f86 0
noncomputable def L1_1_0_1_0 (s0 : ByteArray) (b1 : Bool) (i2 : Int) : Option Res := LP (e [1, 1, 0, 1, 0, 0]) (cn []) (kBlk 0 (kSeq (e [1, 1, 1]) (K))) ([(0, (V.str s0)), (3, (V.bool b1)), (4, (V.int .i64 i2))], ⟨[], [], [], [], none⟩)
theorem L1_1_0_1_0_eq (s0 : ByteArray) (b1 : Bool) (i2 : Int) : L1_1_0_1_0 s0 b1 i2 =
  (bif (decide (i2 < (((ByteArray.size s0) : Nat) : Int))) then (if (((0 : Int) <= i2) ∧ (i2 < (((ByteArray.size s0) : Nat) : Int))) then (bif ((byteAt s0 (Int.toNat i2)) == (10 : Int)) then (L1_1_0_1_0 s0 false (IntKind.wrap .i64 (i2 + (1 : Int)))) else (if (((0 : Int) <= i2) ∧ (i2 < (((ByteArray.size s0) : Nat) : Int))) then (bif ((byteAt s0 (Int.toNat i2)) == (35 : Int)) then (L1_1_0_1_0 s0 true (IntKind.wrap .i64 (i2 + (1 : Int)))) else (bif (!b1) then (if (((0 : Int) <= i2) ∧ (i2 < (((ByteArray.size s0) : Nat) : Int))) then (bif ((byteAt s0 (Int.toNat i2)) != (32 : Int)) then (some ⟨Out.ret (V.int .i64 i2), [], none⟩) else (L1_1_0_1_0 s0 b1 (IntKind.wrap .i64 (i2 + (1 : Int))))) else none) else (L1_1_0_1_0 s0 b1 (IntKind.wrap .i64 (i2 + (1 : Int)))))) else none)) else none) else (some ⟨Out.ret (V.int .i64 (((ByteArray.size s0) : Nat) : Int)), [], none⟩)) := (LP_eq ..).trans (by kernel_rfl)
theorem eq (a0 : ByteArray) : den Sp id [V.str a0] [] none =
  (L1_1_0_1_0 a0 false (0 : Int)) := (den_eq ..).trans (by kernel_rfl)
end ref02_Blank
namespace ref02_First
noncomputable abbrev e (p : List Nat) := ev Sp (den Sp) id Tryz.f87.ntmps (cAt (bodyOf Tryz.f87) p)
noncomputable abbrev cn (n0 : List Nat) := canon Sp id n0
noncomputable abbrev K : K := kFin Sp (den Sp) (Sp.oo id) Tryz.f87 0
noncomputable def L1_1_1_1_1_1_0_1_0 (s0 : ByteArray) (i1 i2 : Int) : Option Res := LP (e [1, 1, 1, 1, 1, 1, 0, 1, 0, 0]) (cn [1002]) (kBlk 0 (kSeq (e [1, 1, 1, 1, 1, 1, 1]) (K))) ([(0, (V.str s0)), (2, (V.ref 1002 0)), (4, (V.int .i64 i1)), (8, (V.int .i64 i2))], ⟨[(1002, (Blk.cells T_api_Token [V.int .i64 (0 : Int), V.str (ByteArray.mk #[]), V.int .i64 (0 : Int), V.int .i64 (0 : Int)] false))], [], [], [], none⟩)
theorem L1_1_1_1_1_1_0_1_0_eq (s0 : ByteArray) (i1 i2 : Int) : L1_1_1_1_1_1_0_1_0 s0 i1 i2 =
  (bif (decide (i2 > (0 : Int))) then (bif (i1 == (0 : Int)) then (bif (decide ((((ByteArray.size s0) : Nat) : Int) >= i2)) then (if ((0 : Int) <= i2) then (if ((0 <= (Int.toNat i2)) ∧ ((Int.toNat i2) <= (ByteArray.size s0))) then (den Sp ref02_Signs.id [] [] none).bind (fun r28 => Res.onRet r28 (fun v29 => V.asSl v29 T_string (fun es30 => (den Sp ref02_in.id [V.str (ByteArray.extract s0 0 (Int.toNat i2)), V.sl .no T_string es30] [] none).bind (fun r31 => Res.onRet r31 (fun v32 => V.asBool v32 (fun b33 => bif b33 then (if ((0 : Int) <= i2) then (if ((0 <= (Int.toNat i2)) ∧ ((Int.toNat i2) <= (ByteArray.size s0))) then (some ⟨Out.ret (V.tup [V.agg [V.int .i64 (4 : Int), V.str (ByteArray.extract s0 0 (Int.toNat i2)), V.int .i64 (0 : Int), V.int .i64 (0 : Int)], V.int .i64 i2]), [], none⟩) else none) else none) else (L1_1_1_1_1_1_0_1_0 s0 i1 (IntKind.wrap .i64 (i2 - (1 : Int)))))))))) else none) else none) else (L1_1_1_1_1_1_0_1_0 s0 i1 (IntKind.wrap .i64 (i2 - (1 : Int))))) else (L1_1_1_1_1_1_0_1_0 s0 i1 (IntKind.wrap .i64 (i2 - (1 : Int))))) else (some ⟨Out.ret (V.tup [V.agg [V.int .i64 (0 : Int), V.str (ByteArray.mk #[]), V.int .i64 (0 : Int), V.int .i64 (0 : Int)], V.int .i64 (0 : Int)]), [], none⟩)) := (LP_eq ..).trans (by kernel_rfl)
theorem eq (a0 : ByteArray) : den Sp id [V.str a0] [] none =
  (den Sp ref02_run.id [V.str a0] [] none).bind (fun r3 => Res.onRet r3 (fun v4 => V.asInt v4 .i64 (fun n5 => if ((0 : Int) <= n5) then (if ((0 <= (Int.toNat n5)) ∧ ((Int.toNat n5) <= (ByteArray.size a0))) then (bif (decide (n5 > (0 : Int))) then (if (((0 : Int) <= (0 : Int)) ∧ ((0 : Int) < (((ByteArray.size a0) : Nat) : Int))) then (den Sp ref02_digit.id [V.int IntKind.u8 (byteAt a0 0)] [] none).bind (fun r8 => Res.onRet r8 (fun v9 => V.asBool v9 (fun b10 => bif b10 then (den Sp ref01_Parse.id [V.str (ByteArray.extract a0 0 (Int.toNat n5))] [] none).bind (fun r12 => Res.onRet r12 (fun v13 => V.asTup v13 2 (fun rd14 => V.asInt (rd14 0) .i64 (fun n15 => V.asInt (rd14 1) .i64 (fun n16 => bif (n16 != (0 : Int)) then (some ⟨Out.ret (V.tup [V.agg [V.int .i64 (0 : Int), V.str (ByteArray.mk #[]), V.int .i64 (0 : Int), V.int .i64 (0 : Int)], V.int .i64 (0 : Int)]), [], none⟩) else (some ⟨Out.ret (V.tup [V.agg [V.int .i64 (2 : Int), V.str (ByteArray.mk #[]), V.int .i64 n15, V.int .i64 (0 : Int)], V.int .i64 n5]), [], none⟩)))))) else (bif (decide (n5 > (0 : Int))) then (den Sp ref02_Keys.id [] [] none).bind (fun r12 => Res.onRet r12 (fun v13 => V.asSl v13 T_string (fun es14 => (den Sp ref02_in.id [V.str (ByteArray.extract a0 0 (Int.toNat n5)), V.sl .no T_string es14] [] none).bind (fun r15 => Res.onRet r15 (fun v16 => V.asBool v16 (fun b17 => bif b17 then (some ⟨Out.ret (V.tup [V.agg [V.int .i64 (3 : Int), V.str (ByteArray.extract a0 0 (Int.toNat n5)), V.int .i64 (0 : Int), V.int .i64 (0 : Int)], V.int .i64 n5]), [], none⟩) else (bif (decide (n5 > (0 : Int))) then (den Sp ref02_IsName.id [V.str (ByteArray.extract a0 0 (Int.toNat n5))] [] none).bind (fun r19 => Res.onRet r19 (fun v20 => V.asBool v20 (fun b21 => bif b21 then (some ⟨Out.ret (V.tup [V.agg [V.int .i64 (1 : Int), V.str (ByteArray.extract a0 0 (Int.toNat n5)), V.int .i64 (0 : Int), V.int .i64 (0 : Int)], V.int .i64 n5]), [], none⟩) else (L1_1_1_1_1_1_0_1_0 a0 n5 (2 : Int))))) else (L1_1_1_1_1_1_0_1_0 a0 n5 (2 : Int))))))))) else (bif (decide (n5 > (0 : Int))) then (den Sp ref02_IsName.id [V.str (ByteArray.extract a0 0 (Int.toNat n5))] [] none).bind (fun r13 => Res.onRet r13 (fun v14 => V.asBool v14 (fun b15 => bif b15 then (some ⟨Out.ret (V.tup [V.agg [V.int .i64 (1 : Int), V.str (ByteArray.extract a0 0 (Int.toNat n5)), V.int .i64 (0 : Int), V.int .i64 (0 : Int)], V.int .i64 n5]), [], none⟩) else (L1_1_1_1_1_1_0_1_0 a0 n5 (2 : Int))))) else (L1_1_1_1_1_1_0_1_0 a0 n5 (2 : Int))))))) else none) else (bif (decide (n5 > (0 : Int))) then (den Sp ref02_Keys.id [] [] none).bind (fun r9 => Res.onRet r9 (fun v10 => V.asSl v10 T_string (fun es11 => (den Sp ref02_in.id [V.str (ByteArray.extract a0 0 (Int.toNat n5)), V.sl .no T_string es11] [] none).bind (fun r12 => Res.onRet r12 (fun v13 => V.asBool v13 (fun b14 => bif b14 then (some ⟨Out.ret (V.tup [V.agg [V.int .i64 (3 : Int), V.str (ByteArray.extract a0 0 (Int.toNat n5)), V.int .i64 (0 : Int), V.int .i64 (0 : Int)], V.int .i64 n5]), [], none⟩) else (bif (decide (n5 > (0 : Int))) then (den Sp ref02_IsName.id [V.str (ByteArray.extract a0 0 (Int.toNat n5))] [] none).bind (fun r16 => Res.onRet r16 (fun v17 => V.asBool v17 (fun b18 => bif b18 then (some ⟨Out.ret (V.tup [V.agg [V.int .i64 (1 : Int), V.str (ByteArray.extract a0 0 (Int.toNat n5)), V.int .i64 (0 : Int), V.int .i64 (0 : Int)], V.int .i64 n5]), [], none⟩) else (L1_1_1_1_1_1_0_1_0 a0 n5 (2 : Int))))) else (L1_1_1_1_1_1_0_1_0 a0 n5 (2 : Int))))))))) else (bif (decide (n5 > (0 : Int))) then (den Sp ref02_IsName.id [V.str (ByteArray.extract a0 0 (Int.toNat n5))] [] none).bind (fun r10 => Res.onRet r10 (fun v11 => V.asBool v11 (fun b12 => bif b12 then (some ⟨Out.ret (V.tup [V.agg [V.int .i64 (1 : Int), V.str (ByteArray.extract a0 0 (Int.toNat n5)), V.int .i64 (0 : Int), V.int .i64 (0 : Int)], V.int .i64 n5]), [], none⟩) else (L1_1_1_1_1_1_0_1_0 a0 n5 (2 : Int))))) else (L1_1_1_1_1_1_0_1_0 a0 n5 (2 : Int))))) else none) else none))) := (den_eq ..).trans (by kernel_rfl)
end ref02_First
namespace ref02_Scan
noncomputable abbrev e (p : List Nat) := ev Sp (den Sp) id Tryz.f46.ntmps (cAt (bodyOf Tryz.f46) p)
noncomputable abbrev cn (n0 : List Nat) := canon Sp id n0
noncomputable abbrev K : K := kFin Sp (den Sp) (Sp.oo id) Tryz.f46 0
noncomputable def L1_1_1_1_0_0 (s0 : ByteArray) (l1 : List (List V)) (i2 : Int) : Option Res := LP (e [1, 1, 1, 1, 0, 0, 0]) (cn []) (kBlk 0 (kSeq (e [1, 1, 1, 1, 1]) (K))) ([(0, (V.str s0)), (5, (V.sl (Tok.row 0) T_api_Token l1)), (6, (V.int .i64 i2))], ⟨[], [0], [], [], none⟩)
theorem L1_1_1_1_0_0_eq (s0 : ByteArray) (l1 : List (List V)) (i2 : Int) : L1_1_1_1_0_0 s0 l1 i2 =
  (bif (decide (i2 < (((ByteArray.size s0) : Nat) : Int))) then (if ((0 : Int) <= i2) then (if (((Int.toNat i2) <= (ByteArray.size s0)) ∧ ((ByteArray.size s0) <= (ByteArray.size s0))) then (den Sp ref02_First.id [V.str (ByteArray.extract s0 (Int.toNat i2) (ByteArray.size s0))] [] none).bind (fun r13 => Res.onRet r13 (fun v14 => V.asTup v14 2 (fun rd15 => V.asAgg (rd15 0) 4 (fun rd16 => V.asInt (rd16 0) .i64 (fun n17 => V.asStr (rd16 1) (fun s18 => V.asInt (rd16 2) .i64 (fun n19 => V.asInt (rd16 3) .i64 (fun n20 => V.asInt (rd15 1) .i64 (fun n21 => bif (n21 == (0 : Int)) then (some ⟨Out.ret (V.tup [V.sl .no T_api_Token [], V.int .i64 i2, V.int .i64 (20 : Int)]), [], none⟩) else (bif (decide ((l1.length : Int) >= (4000 : Int))) then (some ⟨Out.ret (V.tup [V.sl .no T_api_Token [], V.int .i64 i2, V.int .i64 (2 : Int)]), [], none⟩) else (if (((List.length l1) + (List.length [[V.int .i64 n17, V.str s18, V.int .i64 n19, V.int .i64 i2]])) <= most) then (if ((0 : Int) <= (IntKind.wrap .i64 (i2 + n21))) then (if (((Int.toNat (IntKind.wrap .i64 (i2 + n21))) <= (ByteArray.size s0)) ∧ ((ByteArray.size s0) <= (ByteArray.size s0))) then (den Sp ref02_Blank.id [V.str (ByteArray.extract s0 (Int.toNat (IntKind.wrap .i64 (i2 + n21))) (ByteArray.size s0))] [] none).bind (fun r28 => Res.onRet r28 (fun v29 => V.asInt v29 .i64 (fun n30 => L1_1_1_1_0_0 s0 (l1 ++ [[V.int .i64 n17, V.str s18, V.int .i64 n19, V.int .i64 i2]]) (IntKind.wrap .i64 ((IntKind.wrap .i64 (i2 + n21)) + n30))))) else none) else none) else none))))))))))) else none) else none) else (bif (decide ((l1.length : Int) >= (4000 : Int))) then (some ⟨Out.ret (V.tup [V.sl .no T_api_Token [], V.int .i64 i2, V.int .i64 (2 : Int)]), [], none⟩) else (if (((List.length l1) + (List.length [[V.int .i64 (0 : Int), V.str (ByteArray.mk #[]), V.int .i64 (0 : Int), V.int .i64 i2]])) <= most) then (some ⟨Out.ret (V.tup [V.sl .no T_api_Token (l1 ++ [[V.int .i64 (0 : Int), V.str (ByteArray.mk #[]), V.int .i64 (0 : Int), V.int .i64 i2]]), V.int .i64 (0 : Int), V.int .i64 (0 : Int)]), [], none⟩) else none))) := (LP_eq ..).trans (by kernel_rfl)
theorem eq (a0 : ByteArray) : den Sp id [V.str a0] [] none =
  (bif (decide ((((ByteArray.size a0) : Nat) : Int) > (16384 : Int))) then (some ⟨Out.ret (V.tup [V.sl .no T_api_Token [], V.int .i64 (0 : Int), V.int .i64 (2 : Int)]), [], none⟩) else (den Sp ref02_Blank.id [V.str a0] [] none).bind (fun r5 => Res.onRet r5 (fun v6 => V.asInt v6 .i64 (fun n7 => L1_1_1_1_0_0 a0 [] n7)))) := (den_eq ..).trans (by kernel_rfl)
end ref02_Scan
namespace ref02_run
noncomputable abbrev e (p : List Nat) := ev Sp (den Sp) id Tryz.f130.ntmps (cAt (bodyOf Tryz.f130) p)
noncomputable abbrev cn (n0 : List Nat) := canon Sp id n0
noncomputable abbrev K : K := kFin Sp (den Sp) (Sp.oo id) Tryz.f130 0
noncomputable def L1_1_0_0 (s0 : ByteArray) (i1 : Int) : Option Res := LP (e [1, 1, 0, 0, 0]) (cn []) (kBlk 0 (kSeq (e [1, 1, 1]) (K))) ([(0, (V.str s0)), (3, (V.int .i64 i1))], ⟨[], [], [], [], none⟩)
theorem L1_1_0_0_eq (s0 : ByteArray) (i1 : Int) : L1_1_0_0 s0 i1 =
  (bif (decide (i1 < (((ByteArray.size s0) : Nat) : Int))) then (if (((0 : Int) <= i1) ∧ (i1 < (((ByteArray.size s0) : Nat) : Int))) then (den Sp ref02_inner.id [V.int IntKind.u8 (byteAt s0 (Int.toNat i1))] [] none).bind (fun r6 => Res.onRet r6 (fun v7 => V.asBool v7 (fun b8 => bif b8 then (L1_1_0_0 s0 (IntKind.wrap .i64 (i1 + (1 : Int)))) else (some ⟨Out.ret (V.int .i64 i1), [], none⟩)))) else none) else (some ⟨Out.ret (V.int .i64 i1), [], none⟩)) := (LP_eq ..).trans (by kernel_rfl)
theorem eq (a0 : ByteArray) : den Sp id [V.str a0] [] none =
  (L1_1_0_0 a0 (0 : Int)) := (den_eq ..).trans (by kernel_rfl)
end ref02_run
namespace ref02_Right
noncomputable abbrev e (p : List Nat) := ev Sp (den Sp) id Tryz.f165.ntmps (cAt (bodyOf Tryz.f165) p)
noncomputable abbrev cn (n0 : List Nat) := canon Sp id n0
noncomputable abbrev K : K := kFin Sp (den Sp) (Sp.oo id) Tryz.f165 0
noncomputable def L1_1_1_0_1_0 (l0 : List (List V)) (i1 i2 : Int) (s3 : ByteArray) (i4 i5 : Int) : Option Res := LP (e [1, 1, 1, 0, 1, 0, 0]) (cn [1003]) (kBlk 0 (kSeq (e [1, 1, 1, 1]) (K))) ([(0, (V.sl .no T_api_Token l0)), (3, (V.ref 1003 0)), (4, (V.int .i64 i1))], ⟨[(1003, (Blk.cells T_api_Token [V.int .i64 i2, V.str s3, V.int .i64 i4, V.int .i64 i5] false))], [], [], [], none⟩)
theorem L1_1_1_0_1_0_eq (l0 : List (List V)) (i1 i2 : Int) (s3 : ByteArray) (i4 i5 : Int) : L1_1_1_0_1_0 l0 i1 i2 s3 i4 i5 =
  (bif (decide (i1 < (IntKind.wrap .i64 ((l0.length : Int) - (1 : Int))))) then (if (((0 : Int) <= i1) ∧ (i1 < (l0.length : Int))) then (V.asInt (List.getD (List.getD l0 (Int.toNat i1) []) 0 V.undef) .i64 (fun n17 => V.asStr (List.getD (List.getD l0 (Int.toNat i1) []) 1 V.undef) (fun s18 => V.asInt (List.getD (List.getD l0 (Int.toNat i1) []) 2 V.undef) .i64 (fun n19 => V.asInt (List.getD (List.getD l0 (Int.toNat i1) []) 3 V.undef) .i64 (fun n20 => (den Sp ref02_Text.id [V.agg [V.int .i64 n17, V.str s18, V.int .i64 n19, V.int .i64 n20]] [] none).bind (fun r21 => Res.onRet r21 (fun v22 => V.asTup v22 2 (fun rd23 => V.asStr (rd23 0) (fun s24 => V.asBool (rd23 1) (fun b25 => bif (!b25) then (some ⟨Out.ret (V.bool false), [], none⟩) else (L1_1_1_0_1_0 l0 (IntKind.wrap .i64 (i1 + (1 : Int))) i2 s3 i4 i5))))))))))) else none) else (bif (i2 == (0 : Int)) then (bif (decide (s3 = (ByteArray.mk #[]))) then (some ⟨Out.ret (V.bool (i4 == (0 : Int))), [], none⟩) else (some ⟨Out.ret (V.bool false), [], none⟩)) else (some ⟨Out.ret (V.bool false), [], none⟩))) := (LP_eq ..).trans (by kernel_rfl)
theorem eq (a0 : (List (List V))) : den Sp id [V.sl .no T_api_Token a0] [] none =
  (bif ((a0.length : Int) == (0 : Int)) then (some ⟨Out.ret (V.bool false), [], none⟩) else (if (((0 : Int) <= (IntKind.wrap .i64 ((a0.length : Int) - (1 : Int)))) ∧ ((IntKind.wrap .i64 ((a0.length : Int) - (1 : Int))) < (a0.length : Int))) then (V.asInt (List.getD (List.getD a0 (Int.toNat (IntKind.wrap .i64 ((a0.length : Int) - (1 : Int)))) []) 0 V.undef) .i64 (fun n4 => V.asStr (List.getD (List.getD a0 (Int.toNat (IntKind.wrap .i64 ((a0.length : Int) - (1 : Int)))) []) 1 V.undef) (fun s5 => V.asInt (List.getD (List.getD a0 (Int.toNat (IntKind.wrap .i64 ((a0.length : Int) - (1 : Int)))) []) 2 V.undef) .i64 (fun n6 => V.asInt (List.getD (List.getD a0 (Int.toNat (IntKind.wrap .i64 ((a0.length : Int) - (1 : Int)))) []) 3 V.undef) .i64 (fun n7 => L1_1_1_0_1_0 a0 (0 : Int) n4 s5 n6 n7))))) else none)) := (den_eq ..).trans (by kernel_rfl)
end ref02_Right
namespace ref02_Text
theorem eq (a0_0 : Int) (a0_1 : ByteArray) (a0_2 a0_3 : Int) : den Sp id [V.agg [V.int .i64 a0_0, V.str a0_1, V.int .i64 a0_2, V.int .i64 a0_3]] [] none =
  (bif (a0_0 == (2 : Int)) then (den Sp ref01_Text.id [V.int .i64 a0_2] [] none).bind (fun r7 => Res.onRet r7 (fun v8 => V.asStr v8 (fun s9 => bif (decide (a0_2 >= (0 : Int))) then (some ⟨Out.ret (V.tup [V.str s9, V.bool (decide (a0_1 = (ByteArray.mk #[])))]), [], none⟩) else (some ⟨Out.ret (V.tup [V.str s9, V.bool false]), [], none⟩)))) else (den Sp ref02_First.id [V.str a0_1] [] none).bind (fun r7 => Res.onRet r7 (fun v8 => V.asTup v8 2 (fun rd9 => V.asAgg (rd9 0) 4 (fun rd10 => V.asInt (rd10 0) .i64 (fun n11 => V.asStr (rd10 1) (fun s12 => V.asInt (rd10 2) .i64 (fun n13 => V.asInt (rd10 3) .i64 (fun n14 => V.asInt (rd9 1) .i64 (fun n15 => bif (a0_2 == (0 : Int)) then (bif (decide (n15 > (0 : Int))) then (bif (n15 == (((ByteArray.size a0_1) : Nat) : Int)) then (some ⟨Out.ret (V.tup [V.str a0_1, V.bool (n11 == a0_0)]), [], none⟩) else (some ⟨Out.ret (V.tup [V.str a0_1, V.bool false]), [], none⟩)) else (some ⟨Out.ret (V.tup [V.str a0_1, V.bool false]), [], none⟩)) else (some ⟨Out.ret (V.tup [V.str a0_1, V.bool false]), [], none⟩))))))))))) := (den_eq ..).trans (by kernel_rfl)
end ref02_Text
namespace ref01_Parse
noncomputable abbrev e (p : List Nat) := ev Sp (den Sp) id Tryz.f132.ntmps (cAt (bodyOf Tryz.f132) p)
noncomputable abbrev cn (n0 : List Nat) := canon Sp id n0
noncomputable abbrev K : K := kFin Sp (den Sp) (Sp.oo id) Tryz.f132 0
noncomputable def L1_1_0_1_0 (s0 : ByteArray) (i1 i2 : Int) : Option Res := LP (e [1, 1, 0, 1, 0, 0]) (cn []) (kBlk 0 (kSeq (e [1, 1, 1]) (K))) ([(0, (V.str s0)), (4, (V.int .i64 i1)), (5, (V.int .i64 i2))], ⟨[], [], [], [], none⟩)
theorem L1_1_0_1_0_eq (s0 : ByteArray) (i1 i2 : Int) : L1_1_0_1_0 s0 i1 i2 =
  (bif (decide (i2 < (((ByteArray.size s0) : Nat) : Int))) then (bif (decide (i2 < (25 : Int))) then (if (((0 : Int) <= i2) ∧ (i2 < (((ByteArray.size s0) : Nat) : Int))) then (bif (decide ((byteAt s0 (Int.toNat i2)) >= (48 : Int))) then (if (((0 : Int) <= i2) ∧ (i2 < (((ByteArray.size s0) : Nat) : Int))) then (bif (decide ((byteAt s0 (Int.toNat i2)) <= (57 : Int))) then (if (((0 : Int) <= i2) ∧ (i2 < (((ByteArray.size s0) : Nat) : Int))) then (L1_1_0_1_0 s0 (IntKind.wrap .i64 ((IntKind.wrap .i64 (i1 * (10 : Int))) + (IntKind.wrap .i64 (IntKind.wrap IntKind.u8 ((byteAt s0 (Int.toNat i2)) - (48 : Int)))))) (IntKind.wrap .i64 (i2 + (1 : Int)))) else none) else (L1_1_0_1_0 s0 i1 (IntKind.wrap .i64 (i2 + (1 : Int))))) else none) else (L1_1_0_1_0 s0 i1 (IntKind.wrap .i64 (i2 + (1 : Int))))) else none) else (bif (decide ((((ByteArray.size s0) : Nat) : Int) > (0 : Int))) then (if (((0 : Int) <= (0 : Int)) ∧ ((0 : Int) < (((ByteArray.size s0) : Nat) : Int))) then (bif ((byteAt s0 0) == (45 : Int)) then (den Sp ref01_Neg.id [V.int .i64 i1] [] none).bind (fun r10 => Res.onRet r10 (fun v11 => V.asInt v11 .i64 (fun n12 => (den Sp ref01_Text.id [V.int .i64 n12] [] none).bind (fun r14 => Res.onRet r14 (fun v15 => V.asStr v15 (fun s16 => bif (!(decide (s16 = s0))) then (some ⟨Out.ret (V.tup [V.int .i64 (0 : Int), V.int .i64 (10 : Int)]), [], none⟩) else (some ⟨Out.ret (V.tup [V.int .i64 n12, V.int .i64 (0 : Int)]), [], none⟩))))))) else (den Sp ref01_Text.id [V.int .i64 i1] [] none).bind (fun r10 => Res.onRet r10 (fun v11 => V.asStr v11 (fun s12 => bif (!(decide (s12 = s0))) then (some ⟨Out.ret (V.tup [V.int .i64 (0 : Int), V.int .i64 (10 : Int)]), [], none⟩) else (some ⟨Out.ret (V.tup [V.int .i64 i1, V.int .i64 (0 : Int)]), [], none⟩))))) else none) else (den Sp ref01_Text.id [V.int .i64 i1] [] none).bind (fun r10 => Res.onRet r10 (fun v11 => V.asStr v11 (fun s12 => bif (!(decide (s12 = s0))) then (some ⟨Out.ret (V.tup [V.int .i64 (0 : Int), V.int .i64 (10 : Int)]), [], none⟩) else (some ⟨Out.ret (V.tup [V.int .i64 i1, V.int .i64 (0 : Int)]), [], none⟩)))))) else (bif (decide ((((ByteArray.size s0) : Nat) : Int) > (0 : Int))) then (if (((0 : Int) <= (0 : Int)) ∧ ((0 : Int) < (((ByteArray.size s0) : Nat) : Int))) then (bif ((byteAt s0 0) == (45 : Int)) then (den Sp ref01_Neg.id [V.int .i64 i1] [] none).bind (fun r10 => Res.onRet r10 (fun v11 => V.asInt v11 .i64 (fun n12 => (den Sp ref01_Text.id [V.int .i64 n12] [] none).bind (fun r14 => Res.onRet r14 (fun v15 => V.asStr v15 (fun s16 => bif (!(decide (s16 = s0))) then (some ⟨Out.ret (V.tup [V.int .i64 (0 : Int), V.int .i64 (10 : Int)]), [], none⟩) else (some ⟨Out.ret (V.tup [V.int .i64 n12, V.int .i64 (0 : Int)]), [], none⟩))))))) else (den Sp ref01_Text.id [V.int .i64 i1] [] none).bind (fun r10 => Res.onRet r10 (fun v11 => V.asStr v11 (fun s12 => bif (!(decide (s12 = s0))) then (some ⟨Out.ret (V.tup [V.int .i64 (0 : Int), V.int .i64 (10 : Int)]), [], none⟩) else (some ⟨Out.ret (V.tup [V.int .i64 i1, V.int .i64 (0 : Int)]), [], none⟩))))) else none) else (den Sp ref01_Text.id [V.int .i64 i1] [] none).bind (fun r10 => Res.onRet r10 (fun v11 => V.asStr v11 (fun s12 => bif (!(decide (s12 = s0))) then (some ⟨Out.ret (V.tup [V.int .i64 (0 : Int), V.int .i64 (10 : Int)]), [], none⟩) else (some ⟨Out.ret (V.tup [V.int .i64 i1, V.int .i64 (0 : Int)]), [], none⟩)))))) := (LP_eq ..).trans (by kernel_rfl)
theorem eq (a0 : ByteArray) : den Sp id [V.str a0] [] none =
  (L1_1_0_1_0 a0 (0 : Int) (0 : Int)) := (den_eq ..).trans (by kernel_rfl)
end ref01_Parse
end Go.Proofs.YtmhnmelaodhemaaGreatDoor
namespace Go.Proofs.YtmhnmelaodhemaaGreatDoor
open Go Go.Proofs.Ab Go.Proofs.Px
theorem sz_str : sz (Pg.P Sp) 9 = 1 := by kernel_rfl
theorem lex_letter_is (c : Int) : den Sp lex_letter.id [.int .u8 c] [] none = some ⟨.ret (.bool (letter c)), [], none⟩ := by
 rw [lex_letter.eq]
 unfold letter
 by_cases h1 : 65 <= c <;> by_cases h2 : c <= 90 <;> by_cases h3 : 97 <= c <;> simp [h1, h2, h3]
theorem lex_digit_is (c : Int) : den Sp lex_digit.id [.int .u8 c] [] none = some ⟨.ret (.bool (digit c)), [], none⟩ := by
 rw [lex_digit.eq]
 unfold digit
 by_cases h1 : 48 <= c <;> simp [h1]
theorem lex_inner_is (c : Int) : den Sp lex_inner.id [.int .u8 c] [] none = some ⟨.ret (.bool (inner c)), [], none⟩ := by
 rw [lex_inner.eq, lex_letter_is, lex_digit_is]
 unfold inner
 cases letter c <;> cases digit c <;> simp
theorem lex_isKey_is (s : ByteArray) : den Sp lex_isKey.id [.str s] [] none = some ⟨.ret (.bool (isKey s)), [], none⟩ := by
 rw [lex_isKey.eq]
 have key : ∀ i : Nat, i <= 13 -> lex_isKey.L1_0_1_0 s (i : Int) = some ⟨.ret (.bool (isIn s (keys.drop i))), [], none⟩ := by
  refine down ?_ fun i hi ih => ?_
  ·rw [lex_isKey.L1_0_1_0_eq]; rfl
  ·rw [lex_isKey.L1_0_1_0_eq, wrap_nat (by omega), ih, isIn_step (show i < keys.length from hi)]
   have h1 : ((i : Int) < 13) := by omega
   have h2 : ((0 : Int) <= i ∧ (i : Int) < ((13 : Nat) : Int)) := by omega
   rw [show (decide ((i : Int) < 13)) = true by simp [h1], cond_true, if_pos h2]
   try rw [sz_str]
   have hi' : i < keys.length := hi
   have h3 : (keys.map V.str).getD ((Int.toNat (i : Int)) * 1 + 0) V.undef = V.str (keys[i]'hi') := by
    rw [List.getD_eq_getElem?_getD, List.getElem?_map, show Int.toNat (i : Int) * 1 + 0 = i by simp, List.getElem?_eq_getElem hi']
    rfl
   refine (congrArg (fun v => V.asStr v _) h3).trans ?_
   rw [asStr_str]
   generalize keys[i]'hi' = kk
   by_cases he : s = kk
   ·subst he; simp
   ·have he' : ¬ kk = s := fun h => he h.symm
    simp [he, he']
 exact key 0 (by omega)
theorem lex_IsName_is (s : ByteArray) (hs : s.size < 4611686018427387904) : den Sp lex_IsName.id [.str s] [] none = some ⟨.ret (.bool (isName s)), [], none⟩ := by
 rw [lex_IsName.eq, lex_letter_is, lex_isKey_is]
 have key : ∀ i : Nat, i <= s.size -> lex_IsName.L1_1_0_1_0 s (s.size : Int) (i : Int) = some ⟨.ret (.bool (allF (fun i => inner (byteAt s i)) s.size i)), [], none⟩ := by
  refine down ?_ fun i hi ih => ?_
  ·rw [lex_IsName.L1_1_0_1_0_eq, allF_end]; simp
  ·rw [lex_IsName.L1_1_0_1_0_eq, wrap_nat (by omega), ih, lex_inner_is, allF_step hi]
   have h1 : ((i : Int) < (s.size : Int)) := by omega
   cases hin : inner (byteAt s i) <;> simp [hi, hin]
 unfold isName
 by_cases h0 : s = ⟨#[]⟩
 ·subst h0; rfl
 ·have hsz : 0 < s.size := by
   rcases Nat.eq_zero_or_pos s.size with h | h
   ·exact absurd ((empty_iff s).2 h) h0
   ·exact h
  by_cases h1 : 40 < s.size
  ·have h1' : ¬ s.size <= 40 := by omega
   have h3 : ((s.size : Int) > 40) := by omega
   simp [h0, show ¬ s = B [] from h0, h1', h3]
  ·have h1' : s.size <= 40 := by omega
   have h2 : ¬ ((s.size : Int) > 40) := by omega
   have hk := key 0 (by omega)
   rw [show ((0 : Nat) : Int) = (0 : Int) from rfl] at hk
   cases hl : letter (byteAt s 0) <;> cases hq : isKey s <;> simp [h0, show ¬ s = B [] from h0, h1', h2, hsz, hl, hq, hk]
theorem ref02_between_is (a b c : Int) : den Sp ref02_between.id [.int .u8 a, .int .u8 b, .int .u8 c] [] none = some ⟨.ret (.bool (decide (b <= a) && decide (a <= c))), [], none⟩ := by
 rw [ref02_between.eq]
 by_cases h1 : b <= a <;> simp [h1]
theorem ref02_letter_is (c : Int) : den Sp ref02_letter.id [.int .u8 c] [] none = some ⟨.ret (.bool (letter c)), [], none⟩ := by
 rw [ref02_letter.eq, ref02_between_is, ref02_between_is]
 unfold letter
 by_cases h1 : 65 <= c <;> by_cases h2 : c <= 90 <;> by_cases h3 : 97 <= c <;> simp [h1, h2, h3]
theorem ref02_digit_is (c : Int) : den Sp ref02_digit.id [.int .u8 c] [] none = some ⟨.ret (.bool (digit c)), [], none⟩ := by
 rw [ref02_digit.eq, ref02_between_is]
 simp [digit]
theorem ref02_inner_is (c : Int) : den Sp ref02_inner.id [.int .u8 c] [] none = some ⟨.ret (.bool (inner c)), [], none⟩ := by
 rw [ref02_inner.eq, ref02_letter_is, ref02_digit_is]
 unfold inner
 cases letter c <;> cases digit c <;> simp
theorem ref02_Keys_is : den Sp ref02_Keys.id [] [] none = some ⟨.ret (.sl .no T_string (keys.map fun k => [.str k])), [], none⟩ := ref02_Keys.eq
theorem ref02_in_is (s : ByteArray) (l : List ByteArray) (hl : l.length < 4611686018427387904) : den Sp ref02_in.id [.str s, .sl .no T_string (l.map fun k => [.str k])] [] none = some ⟨.ret (.bool (isIn s l)), [], none⟩ := by
 rw [ref02_in.eq]
 have key : ∀ i : Nat, i <= l.length -> ref02_in.L1_0_1_0 s (l.map fun k => [V.str k]) (i : Int) = some ⟨.ret (.bool (isIn s (l.drop i))), [], none⟩ := by
  refine down ?_ fun i hi ih => ?_
  ·rw [ref02_in.L1_0_1_0_eq]; simp [isIn]
  ·rw [ref02_in.L1_0_1_0_eq, wrap_nat (by omega), ih, isIn_step hi]
   have h3 : (List.getD (List.getD (l.map fun k => [V.str k]) (Int.toNat (i : Int)) []) 0 V.undef) = V.str l[i] := by
    simp [List.getD_eq_getElem?_getD, hi]
   rw [h3]
   by_cases he : l[i] = s
   ·simp [hi, he]
   ·simp [hi, he]
 exact key 0 (by omega)
theorem ref02_IsName_is (s : ByteArray) (hs : s.size < 4611686018427387904) : den Sp ref02_IsName.id [.str s] [] none = some ⟨.ret (.bool (isName s)), [], none⟩ := by
 rw [ref02_IsName.eq]
 have key : ∀ i : Nat, i <= s.size -> ref02_IsName.L1_0_1_0 s (i : Int) = some ⟨.ret (.bool (decide (0 < s.size) && decide (s.size <= 40) && letter (byteAt s 0) && !isKey s && allF (fun i => inner (byteAt s i)) s.size i)), [], none⟩ := by
  refine down ?_ fun i hi ih => ?_
  ·rw [ref02_IsName.L1_0_1_0_eq, allF_end, ref02_Keys_is, ref02_letter_is]
   simp only [Option.bind_some, onRet_ret, asBool_bool, asSl_sl, ref02_in_is s keys (by decide)]
   by_cases h0 : 0 < s.size
   ·by_cases h1 : s.size <= 40
    ·have h2 : (s.size : Int) <= 40 := by omega
     have h3 : (0 : Int) < s.size := by omega
     cases hl : letter (byteAt s 0) <;> simp [h0, h1, h2, h3, isKey]
    ·have h2 : ¬ (s.size : Int) <= 40 := by omega
     have h3 : (0 : Int) < s.size := by omega
     simp [h0, h1, h2, h3]
   ·have h3 : ¬ (0 : Int) < s.size := by omega
    simp [h0, h3]
  ·rw [ref02_IsName.L1_0_1_0_eq, wrap_nat (by omega), ih, ref02_inner_is, allF_step hi]
   cases hin : inner (byteAt s i) <;> simp [hi, hin]
 exact key 0 (by omega)
theorem lex_sign_is (l : List UInt8) (hl : l.length < 4611686018427387904) : den Sp lex_sign.id [.str (B l)] [] none = some ⟨.ret (.str (B (sign l))), [], none⟩ := by
 rw [lex_sign.eq]
 have key : ∀ i : Nat, i <= 21 -> lex_sign.L1_0_1_1_0_1_0 (B l) (i : Int) = some ⟨.ret (.str (B (signIn l (signs.drop i)))), [], none⟩ := by
  refine down ?_ fun i hi ih => ?_
  ·rw [lex_sign.L1_0_1_1_0_1_0_eq]; rfl
  ·rw [lex_sign.L1_0_1_1_0_1_0_eq, wrap_nat (by omega), ih]
   have hi' : i < signs.length := hi
   have h1 : ((i : Int) < 21) := by omega
   have h2 : ((0 : Int) <= i ∧ (i : Int) < ((21 : Nat) : Int)) := by omega
   rw [show (decide ((i : Int) < 21)) = true by simp [h1], cond_true, if_pos h2]
   try rw [sz_str]
   have h3 : (signs.map fun x => V.str (B x)).getD ((Int.toNat (i : Int)) * 1 + 0) V.undef = V.str (B (signs[i]'hi')) := by
    rw [List.getD_eq_getElem?_getD, List.getElem?_map, show Int.toNat (i : Int) * 1 + 0 = i by simp, List.getElem?_eq_getElem hi']
    rfl
   refine (congrArg (fun v => V.asStr v _) h3).trans ?_
   rw [asStr_str, List.drop_eq_getElem_cons hi']
   generalize signs[i]'hi' = x
   have hs : signIn l (x :: signs.drop (i + 1)) = if l.take x.length = x then x else signIn l (signs.drop (i + 1)) := rfl
   rw [hs]
   simp only [B_size, Int.toNat_natCast, B_extract, List.drop_zero, Nat.sub_zero, B_dec, Nat.zero_le, true_and]
   by_cases hx : x.length <= l.length
   ·have h4 : ((x.length : Nat) : Int) <= ((l.length : Nat) : Int) := by omega
    simp only [h4, decide_true, cond_true, hx, if_true]
    by_cases he : l.take x.length = x
    ·simp [he]
    ·simp [he]
   ·have h4 : ¬ ((x.length : Nat) : Int) <= ((l.length : Nat) : Int) := by omega
    have he : ¬ l.take x.length = x := fun h => by
     have := congrArg List.length h
     simp at this; omega
    simp [h4, he]
 exact key 0 (by omega)
def rd (l : List UInt8) (i : Int) : Blk := .cells T_lex_reader [.str (B l), .int .i64 i] false
theorem blank_T (l : List UInt8) (hl : l.length < 4611686018427387904) (i : Nat) (hi : i < l.length) (c : UInt8) (hc : l.getD i 0 = c) :
  lex_reader_blank.L0_0_1_0_1_0_1_1_1_0_0 (B l) (i : Int) = bif (c == 10) then lex_reader_blank.L0 (B l) (i : Int) else lex_reader_blank.L0_0_1_0_1_0_1_1_1_0_0 (B l) ((i + 1 : Nat) : Int) := by
 have hlt : ((i : Int) < (l.length : Int)) := by omega
 have hcond : (0 : Int) <= (i : Int) ∧ (i : Int) < (l.length : Int) := ⟨by omega, hlt⟩
 rw [lex_reader_blank.L0_0_1_0_1_0_1_1_1_0_0_eq, wrap_nat (by omega), B_size, decide_eq_true hlt, cond_true, if_pos hcond, Int.toNat_natCast, B_byte, hc]
 have hne : ((c.toNat : Int) != (10 : Int)) = !(c == 10) := congrArg not (byte_eq c 10 (by omega))
 rw [hne]
 cases (c == 10) <;> simp only [Bool.not_false, Bool.not_true, cond_true, cond_false]
theorem blank_F (l : List UInt8) (hl : l.length < 4611686018427387904) (i : Nat) (hi : i < l.length) (c : UInt8) (hc : l.getD i 0 = c) :
  lex_reader_blank.L0 (B l) (i : Int) = bif (c == 32) then lex_reader_blank.L0 (B l) ((i + 1 : Nat) : Int) else bif (c == 10) then lex_reader_blank.L0 (B l) ((i + 1 : Nat) : Int) else
   bif (c == 35) then lex_reader_blank.L0_0_1_0_1_0_1_1_1_0_0 (B l) (i : Int) else some ⟨.ret (.tup []), [rd l (i : Int)], none⟩ := by
 have hlt : ((i : Int) < (l.length : Int)) := by omega
 have hcond : (0 : Int) <= (i : Int) ∧ (i : Int) < (l.length : Int) := ⟨by omega, hlt⟩
 rw [lex_reader_blank.L0_eq, wrap_nat (by omega), B_size, decide_eq_true hlt, cond_true, if_pos hcond, Int.toNat_natCast, B_byte, hc]
 have h1 : ((c.toNat : Int) == (32 : Int)) = (c == 32) := byte_eq c 32 (by omega)
 have h2 : ((c.toNat : Int) == (10 : Int)) = (c == 10) := byte_eq c 10 (by omega)
 have h3 : ((c.toNat : Int) == (35 : Int)) = (c == 35) := byte_eq c 35 (by omega)
 rw [h1, h2, h3]
 unfold rd
 cases (c == 32) <;> cases (c == 10) <;> cases (c == 35) <;> simp only [cond_true, cond_false]
theorem lex_blank_is (l : List UInt8) (hl : l.length < 4611686018427387904) (i : Nat) (hi : i <= l.length) :
  den Sp lex_reader_blank.id [.ref 0 0] [rd l i] none = some ⟨.ret (.tup []), [rd l ((l.length - (sk false (l.drop i)).length : Nat) : Int)], none⟩ := by
 show den Sp lex_reader_blank.id [.ref 0 0] [.cells T_lex_reader [.str (B l), .int .i64 i] false] none = _
 rw [lex_reader_blank.eq]
 have key : ∀ i : Nat, i <= l.length -> lex_reader_blank.L0 (B l) (i : Int) = some ⟨.ret (.tup []), [rd l ((l.length - (sk false (l.drop i)).length : Nat) : Int)], none⟩ ∧
   lex_reader_blank.L0_0_1_0_1_0_1_1_1_0_0 (B l) (i : Int) = some ⟨.ret (.tup []), [rd l ((l.length - (sk true (l.drop i)).length : Nat) : Int)], none⟩ := by
  refine down ?_ fun i hi ih => ?_
  ·have hlt : ¬ ((l.length : Int) < (l.length : Int)) := by omega
   have h0 : lex_reader_blank.L0 (B l) (l.length : Int) = some ⟨.ret (.tup []), [rd l ((l.length : Nat) : Int)], none⟩ := by
    rw [lex_reader_blank.L0_eq, B_size, decide_eq_false hlt]; rfl
   have h1 : lex_reader_blank.L0_0_1_0_1_0_1_1_1_0_0 (B l) (l.length : Int) = lex_reader_blank.L0 (B l) (l.length : Int) := by
    rw [lex_reader_blank.L0_0_1_0_1_0_1_1_1_0_0_eq, B_size, decide_eq_false hlt]; rfl
   rw [h1, h0, List.drop_length]
   exact ⟨rfl, rfl⟩
  ·obtain ⟨ih1, ih2⟩ := ih
   obtain ⟨c, hc⟩ : ∃ c, l.getD i 0 = c := ⟨_, rfl⟩
   have hd := drop_cons hi
   rw [hc] at hd
   have hT := blank_T l hl i hi c hc
   have hF := blank_F l hl i hi c hc
   have hn : l.length - (c :: l.drop (i + 1)).length = i := by rw [<- hd, List.length_drop]; omega
   have goF : lex_reader_blank.L0 (B l) (i : Int) = some ⟨.ret (.tup []), [rd l ((l.length - (sk false (l.drop i)).length : Nat) : Int)], none⟩ := by
    rw [hF, hd]
    unfold sk
    by_cases c10 : c = 10
    ·subst c10
     simp only [beq_self_eq_true, cond_true, show ((10 : UInt8) == 32) = false from rfl, cond_false, if_true]
     exact ih1
    ·rw [if_neg c10, if_neg nofun]
     by_cases c32 : c = 32
     ·subst c32
      simp only [beq_self_eq_true, cond_true, if_true]
      exact ih1
     ·rw [if_neg c32]
      by_cases c35 : c = 35
      ·subst c35
       simp only [beq_self_eq_true, cond_true, if_true, show ((35 : UInt8) == 32) = false from rfl, show ((35 : UInt8) == 10) = false from rfl, cond_false]
       rw [hT]
       simp only [show ((35 : UInt8) == 10) = false from rfl, cond_false]
       exact ih2
      ·rw [if_neg c35, beq_eq_false_iff_ne.2 c10, beq_eq_false_iff_ne.2 c32, beq_eq_false_iff_ne.2 c35, cond_false, cond_false, cond_false, hn]
   refine ⟨goF, ?_⟩
   rw [hT]
   by_cases c10 : c = 10
   ·subst c10
    simp only [beq_self_eq_true, cond_true]
    rw [goF, hd]
    have : sk false (10 :: l.drop (i + 1)) = sk true (10 :: l.drop (i + 1)) := by simp [sk]
    rw [this]
   ·rw [beq_eq_false_iff_ne.2 c10, cond_false, ih2, hd]
    have : sk true (c :: l.drop (i + 1)) = sk true (l.drop (i + 1)) := by
     rw [sk, if_neg c10, if_pos rfl]
    rw [this]
 exact (key i hi).1
theorem lex_word_is (l : List UInt8) (hl : l.length < 4611686018427387904) (i : Nat) (hi : i <= l.length) :
  den Sp lex_reader_word.id [.ref 0 0] [rd l i] none = some ⟨.ret (.str (B (word (l.drop i)))), [rd l i], none⟩ := by
 show den Sp lex_reader_word.id [.ref 0 0] [.cells T_lex_reader [.str (B l), .int .i64 i] false] none = _
 rw [lex_reader_word.eq]
 have fin : ∀ k : Nat, i <= k -> k <= l.length -> (if ((0 : Int) <= (i : Int)) then (if ((0 : Int) <= (k : Int)) then (if (((Int.toNat (i : Int)) <= (Int.toNat (k : Int))) ∧ ((Int.toNat (k : Int)) <= (ByteArray.size (B l)))) then (some (Res.mk (Out.ret (V.str (ByteArray.extract (B l) (Int.toNat (i : Int)) (Int.toNat (k : Int))))) [(Blk.cells T_lex_reader [(V.str (B l)), (V.int IntKind.i64 i)] Bool.false)] none)) else none) else none) else none) =
   some ⟨.ret (.str (B ((l.drop i).take (k - i)))), [rd l i], none⟩ := fun k h1 h2 => by
  rw [if_pos (by omega), if_pos (by omega), if_pos (by simp; omega)]
  simp [rd]
 have key : ∀ k : Nat, k <= l.length -> i <= k -> lex_reader_word.L1_1_0_0 (k : Int) (B l) (i : Int) = some ⟨.ret (.str (B ((l.drop i).take (k - i + (word (l.drop k)).length)))), [rd l i], none⟩ := by
  refine down (fun hik => ?_) fun k hk ih hik => ?_
  ·rw [lex_reader_word.L1_1_0_0_eq]
   have := fin l.length hik (Nat.le_refl _)
   simp only [B_size, Int.lt_irrefl, decide_false, cond_false]
   simp only [B_size] at this
   rw [this]; simp [word]
  ·have hlt : ((k : Int) < (l.length : Int)) := by omega
   have hcond : (0 : Int) <= (k : Int) ∧ (k : Int) < (l.length : Int) := ⟨by omega, hlt⟩
   have h2 := fin k hik (by omega)
   rw [B_size] at h2
   obtain ⟨c, hc⟩ : ∃ c, l.getD k 0 = c := ⟨_, rfl⟩
   have hd := drop_cons hk
   rw [hc] at hd
   rw [lex_reader_word.L1_1_0_0_eq, wrap_nat (by omega), ih (by omega), lex_inner_is, B_size, decide_eq_true hlt, cond_true, if_pos hcond, Int.toNat_natCast, B_byte, hc]
   simp only [Option.bind_some, onRet_ret, asBool_bool]
   have hw : word (c :: l.drop (k + 1)) = if inn c then c :: word (l.drop (k + 1)) else [] := by unfold word; rw [List.takeWhile_cons]
   rw [hd, hw]
   show (bif inn c then _ else _) = _
   cases hin : inn c with
   | true =>
    simp only [cond_true, if_true, List.length_cons]
    rw [show k + 1 - i + (word (l.drop (k + 1))).length = k - i + ((word (l.drop (k + 1))).length + 1) by omega]
   | false =>
    simp only [cond_false, List.length_nil, Nat.add_zero]
    simp only [Int.toNat_natCast] at h2
    exact h2
 have := key i hi (Nat.le_refl _)
 rw [this, Nat.sub_self, Nat.zero_add]
 have hw : (l.drop i).take (word (l.drop i)).length = word (l.drop i) := by
  unfold word
  exact (List.prefix_iff_eq_take.1 (List.takeWhile_prefix inn)).symm
 rw [hw]
def pairV (x : Int × Int) : Option Res := some ⟨.ret (.tup [.int .i64 x.1, .int .i64 x.2]), [], none⟩
theorem tdiv10 {n : Int} (h : 0 <= n) : Int.tdiv n 10 = n / 10 := Int.tdiv_eq_ediv_of_nonneg h
theorem parse_round (X Y : Option Res) (u : Nat) (hu : u <= 9223372036854775808) (c : UInt8) (r : List UInt8) (hX : X = pairV (0, 10)) (hY : dg c = true -> u * 10 + (c.toNat - 48) <= 9223372036854775808 -> Y = pairV (parseGo (u * 10 + (c.toNat - 48)) r)) :
  (bif (decide ((c.toNat : Int) < (48 : Int))) then X else (bif (decide ((IntKind.wrap IntKind.u64 ((IntKind.wrap IntKind.u64 (c.toNat : Int)) - (48 : Int))) > (9 : Int))) then X else
   (bif (decide ((u : Int) > (IntKind.wrap IntKind.u64 (Int.tdiv (IntKind.wrap IntKind.u64 ((9223372036854775808 : Int) - (IntKind.wrap IntKind.u64 ((IntKind.wrap IntKind.u64 (c.toNat : Int)) - (48 : Int))))) (10 : Int))))) then X else Y))) = pairV (parseGo u (c :: r)) := by
 have hc : c.toNat < 256 := c.toNat_lt
 unfold parseGo
 by_cases h1 : (c.toNat : Int) < 48
 ·have : ¬ (dg c = true ∧ u * 10 + (c.toNat - 48) <= 9223372036854775808) := by
   rintro ⟨h2, _⟩
   unfold dg digit at h2
   simp only [Bool.and_eq_true, decide_eq_true_eq] at h2
   omega
  rw [decide_eq_true h1, cond_true, if_neg this, hX]
 ·have e1 : IntKind.wrap IntKind.u64 (c.toNat : Int) = (c.toNat : Int) := by rw [IntKind.wrap_u64]; omega
  have e2 : IntKind.wrap IntKind.u64 ((c.toNat : Int) - 48) = (c.toNat : Int) - 48 := by rw [IntKind.wrap_u64]; omega
  rw [e1, e2, decide_eq_false h1, cond_false]
  by_cases h2 : ((c.toNat : Int) - 48) > 9
  ·have : ¬ (dg c = true ∧ u * 10 + (c.toNat - 48) <= 9223372036854775808) := by
    rintro ⟨h3, _⟩
    unfold dg digit at h3
    simp only [Bool.and_eq_true, decide_eq_true_eq] at h3
    omega
   rw [decide_eq_true h2, cond_true, if_neg this, hX]
  ·have e3 : IntKind.wrap IntKind.u64 ((9223372036854775808 : Int) - ((c.toNat : Int) - 48)) = (9223372036854775808 : Int) - ((c.toNat : Int) - 48) := by rw [IntKind.wrap_u64]; omega
   have e4 : IntKind.wrap IntKind.u64 (((9223372036854775808 : Int) - ((c.toNat : Int) - 48)) / 10) = ((9223372036854775808 : Int) - ((c.toNat : Int) - 48)) / 10 := by rw [IntKind.wrap_u64]; omega
   rw [e3, tdiv10 (by omega), e4, decide_eq_false h2, cond_false]
   have hd : dg c = true := by
    unfold dg digit
    simp only [Bool.and_eq_true, decide_eq_true_eq]
    omega
   by_cases h3 : (u : Int) > ((9223372036854775808 : Int) - ((c.toNat : Int) - 48)) / 10
   ·have : ¬ (dg c = true ∧ u * 10 + (c.toNat - 48) <= 9223372036854775808) := by
     rintro ⟨_, h4⟩
     omega
    rw [decide_eq_true h3, cond_true, if_neg this, hX]
   ·have : (dg c = true ∧ u * 10 + (c.toNat - 48) <= 9223372036854775808) := ⟨hd, by omega⟩
    rw [decide_eq_false h3, cond_false, if_pos this, hY this.1 this.2]
theorem parse_next (u : Nat) (hu : u <= 9223372036854775808) (c : UInt8) (h : u * 10 + (c.toNat - 48) <= 9223372036854775808) (hd : dg c = true) :
  (IntKind.wrap IntKind.u64 ((IntKind.wrap IntKind.u64 ((u : Int) * (10 : Int))) + (IntKind.wrap IntKind.u64 ((IntKind.wrap IntKind.u64 (c.toNat : Int)) - (48 : Int))))) = ((u * 10 + (c.toNat - 48) : Nat) : Int) := by
 have hc : c.toNat < 256 := c.toNat_lt
 unfold dg digit at hd
 simp only [Bool.and_eq_true, decide_eq_true_eq] at hd
 have e1 : IntKind.wrap IntKind.u64 (c.toNat : Int) = (c.toNat : Int) := by rw [IntKind.wrap_u64]; omega
 have e2 : IntKind.wrap IntKind.u64 ((c.toNat : Int) - 48) = (c.toNat : Int) - 48 := by rw [IntKind.wrap_u64]; omega
 have e3 : IntKind.wrap IntKind.u64 ((u : Int) * 10) = (u : Int) * 10 := by rw [IntKind.wrap_u64]; omega
 have e4 : IntKind.wrap IntKind.u64 ((u : Int) * 10 + ((c.toNat : Int) - 48)) = (u : Int) * 10 + ((c.toNat : Int) - 48) := by rw [IntKind.wrap_u64]; omega
 rw [e1, e2, e3, e4]; omega
theorem parse_v2 (w : List UInt8) (hw : w.length < 4611686018427387904) : ∀ i, i <= w.length -> ∀ u : Nat, u <= 9223372036854775808 -> num_Parse.L1_0_1_1_1_1_1_0_1_0v2 (B w) (u : Int) (i : Int) = pairV (parseGo u (w.drop i)) := by
 refine down (fun u hu => ?_) fun i hi ih u hu => ?_
 ·have hlt : ¬ ((w.length : Int) < (w.length : Int)) := by omega
  rw [num_Parse.L1_0_1_1_1_1_1_0_1_0v2_eq, B_size, decide_eq_false hlt, cond_false, List.drop_length]
  unfold parseGo
  by_cases h : u = 9223372036854775808
  ·subst h; rfl
  ·have h' : ¬ ((u : Int) = 9223372036854775808) := by omega
   rw [if_neg h, beq_eq_false_iff_ne.2 h', cond_false, wrap_in (by omega) (by omega)]
   rfl
 ·have hlt : ((i : Int) < (w.length : Int)) := by omega
  have hcond : (0 : Int) <= (i : Int) ∧ (i : Int) < (w.length : Int) := ⟨by omega, hlt⟩
  obtain ⟨c, hc⟩ : ∃ c, w.getD i 0 = c := ⟨_, rfl⟩
  have hd := drop_cons hi
  rw [hc] at hd
  rw [num_Parse.L1_0_1_1_1_1_1_0_1_0v2_eq, B_size, decide_eq_true hlt, cond_true, if_pos hcond, if_pos hcond, Int.toNat_natCast, B_byte, hc, wrap_nat (by omega), hd]
  refine parse_round _ _ u hu c _ rfl fun hd2 hok => ?_
  rw [parse_next u hu c hok hd2]
  exact ih _ hok
theorem parse_v3 (w : List UInt8) (hw : w.length < 4611686018427387904) : ∀ i, i <= w.length -> ∀ u : Nat, u <= 9223372036854775808 -> num_Parse.L1_0_1_1_1_1_1_0_1_0v3 (B w) (u : Int) true (i : Int) = pairV (parseGo u (w.drop i)) := by
 refine down (fun u hu => ?_) fun i hi ih u hu => ?_
 ·have hlt : ¬ ((w.length : Int) < (w.length : Int)) := by omega
  rw [num_Parse.L1_0_1_1_1_1_1_0_1_0v3_eq, B_size, decide_eq_false hlt, cond_true, cond_false, List.drop_length]
  unfold parseGo
  by_cases h : u = 9223372036854775808
  ·subst h; rfl
  ·have h' : ¬ ((u : Int) = 9223372036854775808) := by omega
   rw [if_neg h, beq_eq_false_iff_ne.2 h', wrap_in (by omega) (by omega)]
   rfl
 ·have hlt : ((i : Int) < (w.length : Int)) := by omega
  have hcond : (0 : Int) <= (i : Int) ∧ (i : Int) < (w.length : Int) := ⟨by omega, hlt⟩
  obtain ⟨c, hc⟩ : ∃ c, w.getD i 0 = c := ⟨_, rfl⟩
  have hd := drop_cons hi
  rw [hc] at hd
  rw [num_Parse.L1_0_1_1_1_1_1_0_1_0v3_eq, B_size, decide_eq_true hlt, cond_true, cond_true, if_pos hcond, if_pos hcond, Int.toNat_natCast, B_byte, hc, wrap_nat (by omega), hd]
  refine parse_round _ _ u hu c _ rfl fun hd2 hok => ?_
  rw [parse_next u hu c hok hd2]
  exact ih _ hok
theorem num_Parse_dg (c : UInt8) (r : List UInt8) (hc : dg c = true) (hw : (c :: r).length < 4611686018427387904) : den Sp num_Parse.id [.str (B (c :: r))] [] none = pairV (parse (c :: r)) := by
 have hc8 : c.toNat < 256 := c.toNat_lt
 have hb := hc
 unfold dg digit at hb
 simp only [Bool.and_eq_true, decide_eq_true_eq] at hb
 have hne : decide (B (c :: r) = B []) = false := by rw [B_dec]; rfl
 have hcond : (0 : Int) <= 0 ∧ (0 : Int) < (((c :: r).length : Nat) : Int) := ⟨Int.le_refl _, by simp⟩
 have h45 : ((c.toNat : Int) == (45 : Int)) = false := beq_eq_false_iff_ne.2 (by omega)
 have hg : (c :: r).getD 0 0 = c := rfl
 rw [num_Parse.eq, B_nil, hne, B_size, Bool.not_false, cond_true, if_pos hcond, B_byte, hg, h45, cond_false, cond_true, if_pos hcond]
 have p2 := parse_v2 (c :: r) hw 0 (by omega) 0 (by omega)
 have p3 := parse_v3 (c :: r) hw 0 (by omega) 0 (by omega)
 rw [List.drop_zero] at p2 p3
 unfold parse
 rw [hg]
 by_cases h48 : c = 48
 ·subst h48
  have h1 : (((48 : UInt8).toNat : Int) != (48 : Int)) = false := rfl
  rw [h1, cond_false]
  by_cases hr : (48 :: r).length = 1
  ·have h2 : ((((48 :: r).length : Nat) : Int) == (1 : Int)) = true := by rw [hr]; rfl
   rw [h2, if_pos (.inr hr)]
   exact p3
  ·have h2 : ((((48 :: r).length : Nat) : Int) == (1 : Int)) = false := beq_eq_false_iff_ne.2 (by omega)
   have h3 : ¬ ((48 : UInt8) ≠ 48 ∨ (48 :: r).length = 1) := fun h => h.elim (fun h => h rfl) hr
   rw [h2, if_neg h3]
   rw [num_Parse.L1_0_1_1_1_1_1_0_1_0v3_eq]
   rfl
 ·have h1 : ((c.toNat : Int) != (48 : Int)) = true := by
   have := byte_eq c 48 (by omega)
   show (!((c.toNat : Int) == ((48 : Nat) : Int))) = true
   rw [this]
   have h5 : (c == UInt8.ofNat 48) = false := beq_eq_false_iff_ne.2 h48
   rw [h5]; rfl
  rw [h1, cond_true, if_pos (.inl h48)]
  exact p2
theorem word_le (r : List UInt8) : (word r).length <= r.length := by
 unfold word
 exact (List.takeWhile_prefix inn).length_le
theorem signIn_le (r : List UInt8) : ∀ l, (signIn r l).length <= r.length
 | [] => Nat.zero_le _
 | x :: l => by
  unfold signIn
  split
  ·rename_i h
   have := congrArg List.length h
   simp at this; omega
  ·exact signIn_le r l
theorem sign_le (r : List UInt8) : (sign r).length <= r.length := signIn_le r signs
theorem next_le (r : List UInt8) (a : Int) : (next r a).2.1 <= r.length := by
 unfold next
 split
 ·exact Nat.zero_le _
 ·split
  ·exact word_le _
  ·split
   ·exact word_le _
   ·exact sign_le _
theorem dg_inn {c : UInt8} (h : dg c = true) : inn c = true := by
 unfold inn inner
 have : digit (c.toNat : Int) = true := h
 rw [this]; simp
theorem isKey_B' (l : List UInt8) : isKey (B l) = isKeyL l := isKey_B l
theorem dec_len (n m : Nat) : decide ((n : Int) <= (m : Int)) = decide (n <= m) := by
 by_cases h : n <= m
 ·rw [decide_eq_true h, decide_eq_true (by omega)]
 ·rw [decide_eq_false h, decide_eq_false (by omega)]
theorem lex_next_is (l : List UInt8) (hl : l.length < 1099511627776) (i : Nat) (hi : i <= l.length) :
  den Sp lex_reader_next.id [.ref 0 0] [rd l i] none = some ⟨.ret (.tup [.agg (next (l.drop i) i).1.v, .bool (next (l.drop i) i).2.2]), [rd l ((i + (next (l.drop i) i).2.1 : Nat) : Int)], none⟩ := by
 show den Sp lex_reader_next.id [.ref 0 0] [.cells T_lex_reader [.str (B l), .int .i64 i] false] none = _
 rw [lex_reader_next.eq]
 by_cases hend : i = l.length
 ·subst hend
  rw [B_size, beq_self_eq_true, cond_true, List.drop_length]
  rfl
 ·have hlt : i < l.length := by omega
  have hne : (((i : Nat) : Int) == ((l.length : Nat) : Int)) = false := beq_eq_false_iff_ne.2 (by omega)
  have hcond : (0 : Int) <= (i : Int) ∧ (i : Int) < (l.length : Int) := ⟨by omega, by omega⟩
  obtain ⟨c, hc⟩ : ∃ c, l.getD i 0 = c := ⟨_, rfl⟩
  have hd := drop_cons hlt
  rw [hc] at hd
  have hwd := lex_word_is l (by omega) i hi
  have hwl := word_le (l.drop i)
  rw [List.length_drop] at hwl
  have hwr : ∀ n : Nat, n <= l.length - i -> IntKind.wrap IntKind.i64 ((i : Int) + (n : Int)) = ((i + n : Nat) : Int) := fun n hn => by
   rw [wrap_in (by omega) (by omega)]; omega
  have hrd : (Blk.cells T_lex_reader [(V.str (B l)), (V.int IntKind.i64 i)] Bool.false) = rd l i := rfl
  rw [B_size, hne, cond_false, if_pos hcond, Int.toNat_natCast, B_byte, hc, lex_letter_is, lex_digit_is, hrd, hwd]
  simp only [Option.bind_some, onRet_ret, asBool_bool, bl_mk]
  have hcells : ∀ (k : (Nat -> V) -> Option Res), Blk.asCells (List.getD [rd l i] 0 (Blk.cells T_n0 [] Bool.true)) T_lex_reader 2 k = k (fun j => [(V.str (B l)), (V.int IntKind.i64 i)].getD j .undef) := fun k => by
   show Blk.asCells (Blk.cells T_lex_reader [(V.str (B l)), (V.int IntKind.i64 i)] false) T_lex_reader 2 k = _
   exact asCells_cells _ _ _ rfl k
  rw [hcells, hcells]
  have hstr : ∀ (k : ByteArray -> Option Res), V.asStr ([(V.str (B l)), (V.int IntKind.i64 i)].getD 0 .undef) k = k (B l) := fun k => rfl
  have hint : ∀ (k : Int -> Option Res), V.asInt ([(V.str (B l)), (V.int IntKind.i64 i)].getD (0 + 1) .undef) IntKind.i64 k = k (i : Int) := fun k => asInt_int _ _ k
  simp only [hstr, hint, asStr_str, lex_isKey_is, Option.bind_some, onRet_ret, asBool_bool, B_size]
  have hnx : next (l.drop i) i = if lt c then (⟨if isKeyL (word (l.drop i)) then 3 else 1, word (l.drop i), 0, i⟩, (word (l.drop i)).length, decide ((word (l.drop i)).length <= 40))
    else if dg c then (⟨2, [], (parse (word (l.drop i))).1, i⟩, (word (l.drop i)).length, decide ((parse (word (l.drop i))).2 = 0))
    else (⟨4, sign (l.drop i), 0, i⟩, (sign (l.drop i)).length, !decide (sign (l.drop i) = [])) := by
   generalize hr : l.drop i = r at hd
   subst hd
   rfl
  show (bif lt c then _ else _) = _
  cases hlc : lt c with
  | true =>
   rw [hnx, hlc, cond_true, if_pos rfl, isKey_B', hwr _ hwl]
   have h40 := dec_len (word (l.drop i)).length 40
   rw [show ((40 : Nat) : Int) = (40 : Int) from rfl] at h40
   rw [h40]
   cases isKeyL (word (l.drop i)) <;> simp only [cond_true, cond_false, if_true, Bool.false_eq_true, if_false] <;> rfl
  | false =>
   rw [hnx, hlc, cond_false]
   simp only [Bool.false_eq_true, if_false]
   show (bif dg c then _ else _) = _
   cases hdc : dg c with
   | true =>
    rw [cond_true]
    simp only [if_true]
    have hwc : word (l.drop i) = c :: word (l.drop (i + 1)) := by
     rw [hd]; unfold word
     rw [List.takeWhile_cons, dg_inn hdc]; rfl
    have hp := num_Parse_dg c (word (l.drop (i + 1))) hdc (by rw [<- hwc]; omega)
    rw [<- hwc] at hp
    rw [hp, hwr _ hwl]
    unfold pairV
    simp only [Option.bind_some, onRet_ret]
    have htp : ∀ (a b : V) (k : (Nat -> V) -> Option Res), V.asTup (.tup [a, b]) 2 k = k (fun j => [a, b].getD j .undef) := fun a b k => asTup_tup _ _ rfl k
    rw [htp]
    have hi1 : ∀ (a b : Int) (k : Int -> Option Res), V.asInt ([V.int .i64 a, V.int .i64 b].getD 0 .undef) IntKind.i64 k = k a := fun a b k => asInt_int _ _ k
    have hi2 : ∀ (a b : Int) (k : Int -> Option Res), V.asInt ([V.int .i64 a, V.int .i64 b].getD (0 + 1) .undef) IntKind.i64 k = k b := fun a b k => asInt_int _ _ k
    rw [hi1, hi2]
    rfl
   | false =>
    rw [cond_false]
    simp only [Bool.false_eq_true, if_false]
    have h1 : (0 : Int) <= (i : Int) := by omega
    have h2 : i <= l.length ∧ l.length <= l.length := ⟨hi, Nat.le_refl _⟩
    rw [if_pos h1, if_pos h2, B_extract]
    have htake : (l.drop i).take (l.length - i) = l.drop i := List.take_of_length_le (by simp)
    have hsl := sign_le (l.drop i)
    rw [List.length_drop] at hsl
    rw [htake, lex_sign_is _ (by rw [List.length_drop]; omega)]
    simp only [Option.bind_some, onRet_ret, asStr_str, B_size]
    rw [hwr _ hsl, B_nil, B_dec]
    rfl
theorem rd_cells (l : List UInt8) (i : Int) (k : (Nat -> V) -> Option Res) (d : Blk) : Blk.asCells (List.getD [rd l i] 0 d) T_lex_reader 2 k = k (fun j => [(V.str (B l)), (V.int IntKind.i64 i)].getD j .undef) :=
 asCells_cells (R := Res) _ _ _ rfl k
theorem rd_str (l : List UInt8) (i : Int) (k : ByteArray -> Option Res) : V.asStr ([(V.str (B l)), (V.int IntKind.i64 i)].getD 0 .undef) k = k (B l) := rfl
theorem rd_int (l : List UInt8) (i : Int) (k : Int -> Option Res) : V.asInt ([(V.str (B l)), (V.int IntKind.i64 i)].getD (0 + 1) .undef) IntKind.i64 k = k i := asInt_int _ _ k
theorem tup0 (k : (Nat -> V) -> Option Res) : V.asTup (.tup []) 0 k = k (fun j => ([] : List V).getD j .undef) := asTup_tup _ _ rfl k
theorem tup2 (a b : V) (k : (Nat -> V) -> Option Res) : V.asTup (.tup [a, b]) 2 k = k (fun j => [a, b].getD j .undef) := asTup_tup _ _ rfl k
theorem tk_agg (t : Tk) (b : V) (k : (Nat -> V) -> Option Res) : V.asAgg ([V.agg t.v, b].getD 0 .undef) 4 k = k (fun j => t.v.getD j .undef) := asAgg_agg (R := Res) t.v 4 rfl k
theorem tk_0 (t : Tk) (k : Int -> Option Res) : V.asInt (t.v.getD 0 .undef) IntKind.i64 k = k t.kind := asInt_int _ _ k
theorem tk_1 (t : Tk) (k : ByteArray -> Option Res) : V.asStr (t.v.getD 1 .undef) k = k (B t.text) := rfl
theorem tk_2 (t : Tk) (k : Int -> Option Res) : V.asInt (t.v.getD 2 .undef) IntKind.i64 k = k t.num := asInt_int _ _ k
theorem tk_3 (t : Tk) (k : Int -> Option Res) : V.asInt (t.v.getD 3 .undef) IntKind.i64 k = k t.at_ := asInt_int _ _ k
theorem bool_1 (a : V) (b : Bool) (k : Bool -> Option Res) : V.asBool ([a, V.bool b].getD (0 + 1) .undef) k = k b := rfl
theorem next_pos (r : List UInt8) (a : Int) (h1 : (next r a).2.2 = true) (h2 : (next r a).1.kind ≠ 0) : 0 < (next r a).2.1 := by
 cases r with
 | nil => exact absurd rfl h2
 | cons c r =>
  have hw : inn c = true -> 0 < (word (c :: r)).length := fun h => by
   unfold word; rw [List.takeWhile_cons, h]; simp
  have hx : next (c :: r) a = if lt c then (⟨if isKeyL (word (c :: r)) then 3 else 1, word (c :: r), 0, a⟩, (word (c :: r)).length, decide ((word (c :: r)).length <= 40))
    else if dg c then (⟨2, [], (parse (word (c :: r))).1, a⟩, (word (c :: r)).length, decide ((parse (word (c :: r))).2 = 0))
    else (⟨4, sign (c :: r), 0, a⟩, (sign (c :: r)).length, !decide (sign (c :: r) = [])) := rfl
  rw [hx] at h1 ⊢
  cases hl : lt c with
  | true =>
   have : inn c = true := by
    unfold inn inner
    have : letter (c.toNat : Int) = true := hl
    rw [this]; rfl
   simpa using hw this
  | false =>
   rw [hl] at h1
   simp only [Bool.false_eq_true, if_false] at h1 ⊢
   cases hd : dg c with
   | true => simpa using hw (dg_inn hd)
   | false =>
    rw [hd] at h1
    simp only [Bool.false_eq_true, if_false] at h1 ⊢
    rcases Nat.eq_zero_or_pos (sign (c :: r)).length with h | h
    ·rw [List.length_eq_zero_iff.1 h] at h1; simp at h1
    ·exact h
def scanV (x : List Tk × Int × Int) : Option Res := some ⟨.ret (.tup [.sl .no T_api_Token (x.1.map Tk.v), .int .i64 x.2.1, .int .i64 x.2.2]), [], none⟩
theorem scan_loop (l : List UInt8) (hl : l.length < 1099511627776) : ∀ (f i : Nat), i <= l.length -> l.length - i < f -> ∀ out : List Tk, out.length <= 4000 ->
  lex_Scan.L1_1_1_1_0 (out.map Tk.v) (B l) (i : Int) = scanV (scanGo f l.length out (l.drop i))
 | 0, i, hi, hf, out, ho => by omega
 | f + 1, i, hi, hf, out, ho => by
  have hskl := sk_le false (l.drop i)
  have hskd := sk_drop false (l.drop i)
  rw [List.length_drop] at hskl
  generalize hj : l.length - (sk false (l.drop i)).length = j
  have hij : i <= j := by omega
  have hjl : j <= l.length := by omega
  have hdj : sk false (l.drop i) = l.drop j := by
   rw [hskd, List.drop_drop]
   congr 1
   rw [List.length_drop]; omega
  have hbl := lex_blank_is l (by omega) i hi
  rw [hj] at hbl
  have hnx := lex_next_is l hl j hjl
  have hnl := next_le (l.drop j) j
  rw [List.length_drop] at hnl
  have hpos := next_pos (l.drop j) j
  have hrd : (Blk.cells T_lex_reader [(V.str (B l)), (V.int IntKind.i64 i)] Bool.false) = rd l i := rfl
  have hrdj : (Blk.cells T_lex_reader [(V.str (B l)), (V.int IntKind.i64 j)] Bool.false) = rd l j := rfl
  have hgo : scanGo (f + 1) l.length out (l.drop i) = if (next (l.drop j) j).2.2 = false then ([], (j : Int), 20) else if out.length = 4000 then ([], (j : Int), 2) else
    if (next (l.drop j) j).1.kind = 0 then (out ++ [(next (l.drop j) j).1], 0, 0) else scanGo f l.length (out ++ [(next (l.drop j) j).1]) ((l.drop j).drop (next (l.drop j) j).2.1) := by
   rw [scanGo_succ, hdj, List.length_drop]
   have : ((l.length - (l.length - j) : Nat) : Int) = (j : Int) := by omega
   rw [this]
  rw [lex_Scan.L1_1_1_1_0_eq, hrd, hbl]
  simp only [Option.bind_some, bl_mk]
  rw [rd_cells, rd_str, rd_int, onRet_ret, tup0, hrdj, hnx]
  simp only [Option.bind_some, bl_mk]
  rw [rd_cells, rd_str, rd_int, onRet_ret, tup2, tk_agg, tk_0, tk_1, tk_2, tk_3, bool_1, hgo]
  generalize next (l.drop j) j = x at *
  obtain ⟨t, n, ok⟩ := x
  dsimp only at *
  cases ok with
  | false => rfl
  | true =>
   rw [Bool.not_true, cond_false, if_neg (fun h : true = false => Bool.noConfusion h)]
   have hlen : (out.map Tk.v).length = out.length := List.length_map ..
   rw [hlen]
   by_cases h4 : out.length = 4000
   ·rw [if_pos h4, h4]; rfl
   ·have h5 : (((out.length : Nat) : Int) == (4000 : Int)) = false := beq_eq_false_iff_ne.2 (by omega)
    have h6 : out.length + (List.length [[(V.int IntKind.i64 t.kind), (V.str (B t.text)), (V.int IntKind.i64 t.num), (V.int IntKind.i64 t.at_)]]) <= most := by
     show out.length + 1 <= 1099511627776
     omega
    have h7 : out.map Tk.v ++ [[(V.int IntKind.i64 t.kind), (V.str (B t.text)), (V.int IntKind.i64 t.num), (V.int IntKind.i64 t.at_)]] = (out ++ [t]).map Tk.v := by
     rw [List.map_append]; rfl
    rw [h5, cond_false, if_neg h4, if_pos h6, h7]
    by_cases hk : t.kind = 0
    ·rw [if_pos hk, hk]; rfl
    ·rw [if_neg hk, beq_eq_false_iff_ne.2 hk, cond_false]
     have hp := hpos rfl hk
     have hdd : (l.drop j).drop n = l.drop (j + n) := List.drop_drop ..
     rw [hdd]
     exact scan_loop l hl f (j + n) (by omega) (by omega) (out ++ [t]) (by rw [List.length_append, List.length_singleton]; omega)
theorem lex_Scan_is (l : List UInt8) (hl : l.length < 1099511627776) : den Sp lex_Scan.id [.str (B l)] [] none = scanV (scan l) := by
 rw [lex_Scan.eq, B_size]
 unfold scan
 by_cases h : l.length > 16384
 ·have h1 : ((l.length : Nat) : Int) > 16384 := by omega
  rw [if_pos h, decide_eq_true h1]; rfl
 ·have h1 : ¬ ((l.length : Nat) : Int) > 16384 := by omega
  rw [if_neg h, decide_eq_false h1, cond_false]
  have := scan_loop l hl (l.length + 1) 0 (by omega) (by omega) [] (by simp)
  rw [List.drop_zero] at this
  exact this
end Go.Proofs.YtmhnmelaodhemaaGreatDoor
namespace Go.Proofs.Px
open Go Go.Proofs.Ab
def bit (x i : Nat) : Nat := x / 2 ^ i % 2
theorem bit_lt (x i : Nat) : bit x i < 2 := Nat.mod_lt _ (by omega)
def bitsTo (x k : Nat) : List (List V) := (List.range k).map fun i => [.int .i64 ((bit x i : Nat) : Int)]
def bitRow (x : Nat) : List (List V) := bitsTo x 64
theorem bitsTo_len (x k : Nat) : (bitsTo x k).length = k := by simp [bitsTo]
theorem bitsTo_succ (x k : Nat) : bitsTo x (k + 1) = bitsTo x k ++ [[.int .i64 ((bit x k : Nat) : Int)]] := by simp [bitsTo, List.range_succ]
theorem bits_at {x i : Nat} (h : i < 64) : List.getD (List.getD (bitRow x) i []) 0 V.undef = .int .i64 ((bit x i : Nat) : Int) := by
 unfold bitRow bitsTo
 rw [List.getD_eq_getElem?_getD (l := List.map _ _), List.getElem?_map, List.getElem?_range h]; rfl
theorem bit_decide (x i : Nat) : x.testBit i = decide (bit x i = 1) := Nat.testBit_eq_decide_div_mod_eq
theorem bit_ext {x y i : Nat} (h : x.testBit i = y.testBit i) : bit x i = bit y i := by
 rw [bit_decide, bit_decide] at h
 have h1 := bit_lt x i
 have h2 := bit_lt y i
 by_cases h3 : bit x i = 1 <;> by_cases h4 : bit y i = 1 <;> simp [h3, h4] at h <;> omega
theorem bits_mod (x : Nat) : bitRow (x % 2 ^ 64) = bitRow x := by
 unfold bitRow bitsTo
 refine List.map_congr_left fun i hi => ?_
 have hi' := List.mem_range.1 hi
 rw [bit_ext (x := x % 2 ^ 64) (y := x) (i := i) (by rw [Nat.testBit_mod_two_pow]; simp [hi'])]
theorem bit_other {x i : Nat} (h : x < 2 ^ 64) (hi : i < 64) : bit (2 ^ 64 - (x + 1)) i = 1 - bit x i := by
 have h1 := Nat.testBit_two_pow_sub_succ h i
 rw [bit_decide, bit_decide] at h1
 have h2 := bit_lt (2 ^ 64 - (x + 1)) i
 have h3 := bit_lt x i
 simp only [hi, decide_true, Bool.true_and] at h1
 by_cases h4 : bit x i = 1
 ·rw [decide_eq_true h4, Bool.not_true, decide_eq_false_iff_not] at h1
  omega
 ·rw [decide_eq_false h4, Bool.not_false, decide_eq_true_eq] at h1
  omega
theorem half (x i : Nat) : x / 2 ^ i = 2 * (x / 2 ^ (i + 1)) + bit x i := by
 unfold bit
 rw [Nat.pow_succ, <- Nat.div_div_eq_div_mul]
 omega
theorem low (x i : Nat) : x % 2 ^ (i + 1) = x % 2 ^ i + 2 ^ i * bit x i := by
 unfold bit
 rw [Nat.pow_succ, Nat.mod_mul]
def carry (a b c i : Nat) : Nat := (a % 2 ^ i + b % 2 ^ i + c) / 2 ^ i
theorem carry_zero (a b c : Nat) : carry a b c 0 = c := by simp [carry, Nat.mod_one]
theorem carry_succ (a b c i : Nat) : carry a b c (i + 1) = (bit a i + bit b i + carry a b c i) / 2 := by
 have hp : 0 < 2 ^ i := Nat.two_pow_pos i
 unfold carry
 rw [low a i, low b i, Nat.pow_succ, <- Nat.div_div_eq_div_mul]
 have : a % 2 ^ i + 2 ^ i * bit a i + (b % 2 ^ i + 2 ^ i * bit b i) + c = (a % 2 ^ i + b % 2 ^ i + c) + 2 ^ i * (bit a i + bit b i) := by
  rw [Nat.mul_add]; omega
 rw [this, Nat.add_mul_div_left _ _ hp]
 congr 1; omega
theorem carry_bit (a b c i : Nat) : bit (a + b + c) i = (bit a i + bit b i + carry a b c i) % 2 := by
 have hp : 0 < 2 ^ i := Nat.two_pow_pos i
 have h1 : a + b + c = (a % 2 ^ i + b % 2 ^ i + c) + 2 ^ i * (a / 2 ^ i + b / 2 ^ i) := by
  have := Nat.mod_add_div a (2 ^ i)
  have := Nat.mod_add_div b (2 ^ i)
  rw [Nat.mul_add]; omega
 unfold bit carry
 rw [h1, Nat.add_mul_div_left _ _ hp]
 omega
theorem carry_lt {a b c i : Nat} (hc : c <= 1) : carry a b c i <= 1 := by
 have hp : 0 < 2 ^ i := Nat.two_pow_pos i
 unfold carry
 have h1 := Nat.mod_lt a hp
 have h2 := Nat.mod_lt b hp
 have : (a % 2 ^ i + b % 2 ^ i + c) / 2 ^ i < 2 := by
  rw [Nat.div_lt_iff_lt_mul hp]; omega
 omega
end Go.Proofs.Px
namespace Go.Proofs.YtmhnmelaodhemaaGreatDoor
open Go Go.Proofs.Ab Go.Proofs.Px
theorem dgt_w (u : Nat) : IntKind.wrap IntKind.u8 (IntKind.wrap IntKind.u64 ((48 : Int) + (Int.tmod (u : Int) (10 : Int)))) = ((dgt u).toNat : Int) := by
 rw [dgt_nat, Int.tmod_eq_emod_of_nonneg (by omega), IntKind.wrap_u64, IntKind.wrap_u8]
 omega
theorem div_w (u : Nat) (h : u < 18446744073709551616) : IntKind.wrap IntKind.u64 (Int.tdiv (u : Int) (10 : Int)) = ((u / 10 : Nat) : Int) := by
 rw [Int.tdiv_eq_ediv_of_nonneg (by omega), IntKind.wrap_u64]
 omega
def sgn (n : Int) (l : List UInt8) : List UInt8 := if n < 0 then 45 :: l else l
theorem set_drop (l : List (List V)) (k : Nat) (x : List V) (h : k < l.length) : (l.set k x).drop k = x :: l.drop (k + 1) := by
 rw [List.drop_set, if_neg (by omega), Nat.sub_self, List.drop_eq_getElem_cons h]
 rfl
theorem text_loop (n : Int) (f : Nat) : ∀ (k u : Nat) (acc : List UInt8) (l : List (List V)), u < 10 ^ f -> u < 18446744073709551616 -> 0 < f -> f + 1 <= k -> k <= 20 -> l.length = 20 -> l.drop k = bv acc ->
  num_Text.L1_1_1_1_1_0_0 n (k : Int) (u : Int) l = some ⟨.ret (.str (B (sgn n (decGo f u acc)))), [], none⟩ := by
 induction f with
 | zero => intro _ _ _ _ _ _ h; omega
 | succ f ih =>
  intro k u acc l hu hu6 hf0 hk hk2 hl hd
  obtain ⟨k, rfl⟩ : ∃ j, k = j + 1 := ⟨k - 1, by omega⟩
  have w1 : IntKind.wrap IntKind.i64 (((k + 1 : Nat) : Int) - 1) = (k : Int) := by rw [wrap_in (by omega) (by omega)]; omega
  have c1 : ((0 : Int) <= (k : Int)) ∧ (((k : Int) < ((20 : Nat) : Int)) ∧ ((k : Int) < ((l.length : Nat) : Int))) := by rw [hl]; omega
  have hset : (l.set k [V.int .u8 ((dgt u).toNat : Int)]).drop k = bv (dgt u :: acc) := by
   rw [set_drop l k _ (by omega), hd]; rfl
  have hlen : (l.set k [V.int .u8 ((dgt u).toNat : Int)]).length = 20 := by rw [List.length_set]; exact hl
  have tk : ∀ (m : List (List V)) (j : Nat) (t : List UInt8), m.length = 20 -> j <= 20 -> m.drop j = bv t -> m.drop j = bv t ∧ (m.drop j).take (20 - j) = bv t := fun m j t h1 h2 h3 =>
   ⟨h3, by rw [List.take_of_length_le (by rw [List.length_drop]; omega), h3]⟩
  rw [num_Text.L1_1_1_1_1_0_0_eq, w1, if_pos c1, dgt_w, div_w u hu6, Int.toNat_natCast]
  unfold decGo
  by_cases h0 : u / 10 = 0
  ·rw [if_pos h0, h0, show (((0 : Nat) : Int) == (0 : Int)) = true from rfl, cond_true]
   by_cases hn : n < 0
   ·obtain ⟨k, rfl⟩ : ∃ j, k = j + 1 := ⟨k - 1, by omega⟩
    have w2 : IntKind.wrap IntKind.i64 (((k + 1 : Nat) : Int) - 1) = (k : Int) := by rw [wrap_in (by omega) (by omega)]; omega
    have hset2 : ((l.set (k + 1) [V.int .u8 ((dgt u).toNat : Int)]).set k [V.int .u8 45]).drop k = bv (45 :: dgt u :: acc) := by
     rw [set_drop _ k _ (by omega), hset]; rfl
    have hlen2 : ((l.set (k + 1) [V.int .u8 ((dgt u).toNat : Int)]).set k [V.int .u8 45]).length = 20 := by rw [List.length_set]; exact hlen
    have ht := tk _ k _ hlen2 (by omega) hset2
    rw [decide_eq_true hn, cond_true, w2, if_pos (by rw [hlen]; omega), if_pos (by omega), Int.toNat_natCast, hlen2, if_pos (by omega), ht.2, bytesOk_bv, if_pos ⟨rfl, by omega⟩, toBytes_bv]
    unfold sgn
    rw [if_pos hn]
    rfl
   ·have ht := tk _ k _ hlen (by omega) hset
    rw [decide_eq_false hn, cond_false, if_pos (by omega), hlen, if_pos (by omega), ht.2, bytesOk_bv, if_pos ⟨rfl, by omega⟩, toBytes_bv]
    unfold sgn
    rw [if_neg hn]
    rfl
  ·have h1 : u / 10 < 10 ^ f := by
    rw [Nat.pow_succ] at hu
    omega
   have hf : 0 < f := by
    rcases Nat.eq_zero_or_pos f with rfl | h2
    ·simp at h1; omega
    ·exact h2
   rw [if_neg h0, beq_eq_false_iff_ne.2 (by omega), cond_false]
   exact ih k (u / 10) (dgt u :: acc) _ h1 (by omega) hf (by omega) (by omega) hlen hset
theorem num_Text_is (n : Int) (h0 : -9223372036854775808 <= n) (h1 : n <= 9223372036854775807) : den Sp num_Text.id [.int .i64 n] [] none = some ⟨.ret (.str (B (decs n))), [], none⟩ := by
 have h19 : (10 : Nat) ^ 19 = 10000000000000000000 := by decide
 have hb : n.natAbs < 10 ^ 19 := by rw [h19]; omega
 have hz : ∀ u : Nat, u = n.natAbs -> num_Text.L1_1_1_1_1_0_0 n (20 : Int) (u : Int) [[(V.int IntKind.u8 (0 : Int))], [(V.int IntKind.u8 (0 : Int))], [(V.int IntKind.u8 (0 : Int))], [(V.int IntKind.u8 (0 : Int))], [(V.int IntKind.u8 (0 : Int))], [(V.int IntKind.u8 (0 : Int))], [(V.int IntKind.u8 (0 : Int))], [(V.int IntKind.u8 (0 : Int))], [(V.int IntKind.u8 (0 : Int))], [(V.int IntKind.u8 (0 : Int))], [(V.int IntKind.u8 (0 : Int))], [(V.int IntKind.u8 (0 : Int))], [(V.int IntKind.u8 (0 : Int))], [(V.int IntKind.u8 (0 : Int))], [(V.int IntKind.u8 (0 : Int))], [(V.int IntKind.u8 (0 : Int))], [(V.int IntKind.u8 (0 : Int))], [(V.int IntKind.u8 (0 : Int))], [(V.int IntKind.u8 (0 : Int))], [(V.int IntKind.u8 (0 : Int))]] =
   some ⟨.ret (.str (B (decs n))), [], none⟩ := by
  rintro u rfl
  have := text_loop n 19 20 n.natAbs [] _ hb (by omega) (by omega) (by omega) (by omega) (show List.length [[(V.int IntKind.u8 (0 : Int))], [(V.int IntKind.u8 (0 : Int))], [(V.int IntKind.u8 (0 : Int))], [(V.int IntKind.u8 (0 : Int))], [(V.int IntKind.u8 (0 : Int))], [(V.int IntKind.u8 (0 : Int))], [(V.int IntKind.u8 (0 : Int))], [(V.int IntKind.u8 (0 : Int))], [(V.int IntKind.u8 (0 : Int))], [(V.int IntKind.u8 (0 : Int))], [(V.int IntKind.u8 (0 : Int))], [(V.int IntKind.u8 (0 : Int))], [(V.int IntKind.u8 (0 : Int))], [(V.int IntKind.u8 (0 : Int))], [(V.int IntKind.u8 (0 : Int))], [(V.int IntKind.u8 (0 : Int))], [(V.int IntKind.u8 (0 : Int))], [(V.int IntKind.u8 (0 : Int))], [(V.int IntKind.u8 (0 : Int))], [(V.int IntKind.u8 (0 : Int))]] = 20 from rfl) rfl
  refine Eq.trans this ?_
  rw [<- dec_of 19 n.natAbs hb (by omega) (by omega)]
  rfl
 rw [num_Text.eq]
 by_cases hn : n < 0
 ·have e1 : IntKind.wrap IntKind.u64 ((0 : Int) - (IntKind.wrap IntKind.u64 n)) = ((n.natAbs : Nat) : Int) := by rw [IntKind.wrap_u64, IntKind.wrap_u64]; omega
  rw [decide_eq_true hn, cond_true, e1, hz _ rfl]
 ·have e1 : IntKind.wrap IntKind.u64 n = ((n.natAbs : Nat) : Int) := by rw [IntKind.wrap_u64]; omega
  rw [decide_eq_false hn, cond_false, e1, hz _ rfl]
def u64 (n : Int) : Nat := (n % 18446744073709551616).toNat
theorem u64_wrap (n : Int) : IntKind.wrap IntKind.u64 n = ((u64 n : Nat) : Int) := by rw [IntKind.wrap_u64]; unfold u64; omega
theorem u64_lt (n : Int) : u64 n < 18446744073709551616 := by unfold u64; omega
theorem two64 : (2 : Nat) ^ 64 = 18446744073709551616 := by decide
theorem ref01_Bits_is (n : Int) : den Sp ref01_Bits.id [.int .i64 n] [] none = some ⟨.ret (.sl .no T_int (bitRow (u64 n))), [], none⟩ := by
 rw [ref01_Bits.eq]
 have key : ∀ i : Nat, i <= 64 -> ref01_Bits.L1_1_0_1_0 n (bitsTo (u64 n) i) (i : Int) = some ⟨.ret (.sl .no T_int (bitRow (u64 n))), [], none⟩ := by
  refine down ?_ fun i hi ih => ?_
  ·rw [ref01_Bits.L1_1_0_1_0_eq]; rfl
  ·have e1 : IntKind.wrap IntKind.u64 (i : Int) = (i : Int) := by rw [IntKind.wrap_u64]; omega
   have e2 : Min.min (Int.toNat (i : Int)) 64 = i := by rw [Int.toNat_natCast]; omega
   have e3 : ¬ ((i : Int) < 0) := by omega
   have e4 : ((i : Int) < 64) := by omega
   have e5 : Int.fdiv ((u64 n : Nat) : Int) ((2 : Int) ^ i) = ((u64 n / 2 ^ i : Nat) : Int) := by
    rw [Int.fdiv_eq_ediv_of_nonneg _ (Int.le_of_lt (Int.pow_pos (by omega)))]
    rw [Int.natCast_ediv, Int.natCast_pow]; rfl
   have e6 : IntKind.wrap IntKind.i64 (Int.tmod ((u64 n / 2 ^ i : Nat) : Int) 2) = ((bit (u64 n) i : Nat) : Int) := by
    have := bit_lt (u64 n) i
    rw [Int.tmod_eq_emod_of_nonneg (Int.natCast_nonneg _)]
    unfold bit at *
    generalize u64 n / 2 ^ i = y at *
    rw [wrap_in (by omega) (by omega)]; omega
   rw [ref01_Bits.L1_1_0_1_0_eq, e1, e2, if_neg e3, decide_eq_true e4, cond_true, u64_wrap, e5, e6, bitsTo_len, if_pos (one_most (by omega)), <- bitsTo_succ, wrap_nat (by omega), ih]
 exact key 0 (by omega)
theorem ref01_number_is (x : Nat) : den Sp ref01_number.id [.sl .no T_int (bitRow x)] [] none = some ⟨.ret (.int .i64 (IntKind.i64.wrap ((x % 2 ^ 64 : Nat) : Int))), [], none⟩ := by
 rw [<- bits_mod]
 have hx : x % 2 ^ 64 < 2 ^ 64 := Nat.mod_lt _ (by decide)
 generalize x % 2 ^ 64 = y at hx
 rw [ref01_number.eq]
 have key : ∀ i : Nat, i <= 64 -> ref01_number.L1_1_0_1_0 (bitRow y) ((y / 2 ^ i : Nat) : Int) ((i : Int) - 1) = some ⟨.ret (.int .i64 (IntKind.i64.wrap (y : Int))), [], none⟩ := by
  intro i
  induction i with
  | zero =>
   intro _
   rw [ref01_number.L1_1_0_1_0_eq, Nat.pow_zero, Nat.div_one]; rfl
  | succ i ih =>
   intro hi
   have e1 : (((i + 1 : Nat) : Int) - 1) = (i : Int) := by omega
   have e2 : ((i : Int) >= 0) := by omega
   have hb : bitRow y = bitsTo y 64 := rfl
   have e3 : (0 : Int) <= (i : Int) ∧ (i : Int) < (((bitRow y).length : Nat) : Int) := by rw [hb, bitsTo_len]; omega
   have hbl := bit_lt y i
   have e4 : IntKind.wrap IntKind.u64 ((IntKind.wrap IntKind.u64 (((y / 2 ^ (i + 1) : Nat) : Int) * 2)) + (IntKind.wrap IntKind.u64 ((bit y i : Nat) : Int))) = ((y / 2 ^ i : Nat) : Int) := by
    have h1 := half y i
    have h2 : y / 2 ^ i <= y := Nat.div_le_self ..
    rw [two64] at hx
    rw [IntKind.wrap_u64, IntKind.wrap_u64, IntKind.wrap_u64]
    omega
   have e5 : IntKind.wrap IntKind.i64 ((i : Int) - 1) = (i : Int) - 1 := wrap_in (by omega) (by omega)
   rw [ref01_number.L1_1_0_1_0_eq, e1, decide_eq_true e2, cond_true, if_pos e3, Int.toNat_natCast, bits_at (by omega), asInt_int, e4, e5]
   exact ih (by omega)
 have := key 64 (by omega)
 rw [Nat.div_eq_of_lt hx] at this
 exact this
theorem ref01_other_is (x : Nat) (hx : x < 2 ^ 64) : den Sp ref01_other.id [.sl .no T_int (bitRow x)] [] none = some ⟨.ret (.sl .no T_int (bitRow (2 ^ 64 - (x + 1)))), [], none⟩ := by
 rw [ref01_other.eq]
 have hlen : (bitRow x).length = 64 := bitsTo_len x 64
 have key : ∀ i : Nat, i <= 64 -> ref01_other.L1_1_0_1_0 (bitRow x) (bitsTo (2 ^ 64 - (x + 1)) i) (i : Int) = some ⟨.ret (.sl .no T_int (bitRow (2 ^ 64 - (x + 1)))), [], none⟩ := by
  refine down ?_ fun i hi ih => ?_
  ·rw [ref01_other.L1_1_0_1_0_eq, hlen]; rfl
  ·have e1 : ((i : Int) < ((64 : Nat) : Int)) := by omega
   have e2 : (0 : Int) <= (i : Int) ∧ (i : Int) < ((64 : Nat) : Int) := by omega
   have hbl := bit_lt x i
   have e3 : IntKind.wrap IntKind.i64 ((1 : Int) - ((bit x i : Nat) : Int)) = ((bit (2 ^ 64 - (x + 1)) i : Nat) : Int) := by
    rw [bit_other hx hi, wrap_in (by omega) (by omega)]; omega
   rw [ref01_other.L1_1_0_1_0_eq, hlen, decide_eq_true e1, cond_true, if_pos e2, Int.toNat_natCast, bits_at hi, asInt_int, e3, bitsTo_len, if_pos (one_most (by omega)), <- bitsTo_succ, wrap_nat (by omega), ih]
 exact key 0 (by omega)
theorem ref01_plus_is (a b c : Nat) (hc : c <= 1) : den Sp ref01_plus.id [.sl .no T_int (bitRow a), .sl .no T_int (bitRow b), .int .i64 (c : Int)] [] none = some ⟨.ret (.sl .no T_int (bitRow (a + b + c))), [], none⟩ := by
 rw [ref01_plus.eq]
 have hlen : ∀ x, (bitRow x).length = 64 := fun x => bitsTo_len x 64
 have key : ∀ i : Nat, i <= 64 -> ref01_plus.L1_1_0_1_0 (bitRow a) (bitRow b) ((carry a b c i : Nat) : Int) (bitsTo (a + b + c) i) (i : Int) = some ⟨.ret (.sl .no T_int (bitRow (a + b + c))), [], none⟩ := by
  refine down ?_ fun i hi ih => ?_
  ·rw [ref01_plus.L1_1_0_1_0_eq]; rfl
  ·have e1 : ((i : Int) < 64) := by omega
   have e2 : (0 : Int) <= (i : Int) ∧ (i : Int) < ((64 : Nat) : Int) := by omega
   have h1 := bit_lt a i
   have h2 := bit_lt b i
   have h3 := carry_lt (a := a) (b := b) (i := i) hc
   have e3 : IntKind.wrap IntKind.i64 ((IntKind.wrap IntKind.i64 (((bit a i : Nat) : Int) + ((bit b i : Nat) : Int))) + ((carry a b c i : Nat) : Int)) = ((bit a i + bit b i + carry a b c i : Nat) : Int) := by
    rw [wrap_in (n := ((bit a i : Nat) : Int) + ((bit b i : Nat) : Int)) (by omega) (by omega), wrap_in (by omega) (by omega)]; omega
   have e4 : Int.tmod ((bit a i + bit b i + carry a b c i : Nat) : Int) 2 = ((bit (a + b + c) i : Nat) : Int) := by
    rw [Int.tmod_eq_emod_of_nonneg (by omega), carry_bit]; omega
   have e5 : IntKind.wrap IntKind.i64 (Int.tdiv ((bit a i + bit b i + carry a b c i : Nat) : Int) 2) = ((carry a b c (i + 1) : Nat) : Int) := by
    rw [Int.tdiv_eq_ediv_of_nonneg (by omega), carry_succ, wrap_in (by omega) (by omega)]; omega
   rw [ref01_plus.L1_1_0_1_0_eq, hlen, hlen, decide_eq_true e1, cond_true, if_pos e2, Int.toNat_natCast, bits_at hi, asInt_int, if_pos e2, bits_at hi, asInt_int, e3, e4, e5, bitsTo_len, if_pos (one_most (by omega)), <- bitsTo_succ, wrap_nat (by omega), ih]
 have := key 0 (by omega)
 rw [carry_zero] at this
 exact this
theorem ref01_Sub_is (a b : Int) : den Sp ref01_Sub.id [.int .i64 a, .int .i64 b] [] none = some ⟨.ret (.int .i64 (IntKind.i64.wrap (a - b))), [], none⟩ := by
 have hb := u64_lt b
 rw [ref01_Sub.eq, ref01_Bits_is, ref01_Bits_is]
 simp only [Option.bind_some, onRet_ret, asSl_sl]
 rw [ref01_other_is _ (by rw [two64]; exact hb)]
 simp only [Option.bind_some, onRet_ret, asSl_sl]
 have hp := ref01_plus_is (u64 a) (2 ^ 64 - (u64 b + 1)) 1 (by omega)
 rw [show (((1 : Nat) : Int)) = (1 : Int) from rfl] at hp
 rw [hp]
 simp only [Option.bind_some, onRet_ret, asSl_sl]
 rw [ref01_number_is]
 simp only [Option.bind_some, onRet_ret, asInt_int]
 congr 4
 rw [IntKind.wrap_i64, IntKind.wrap_i64, two64]
 unfold u64
 omega
theorem ref01_Neg_is (a : Int) : den Sp ref01_Neg.id [.int .i64 a] [] none = some ⟨.ret (.int .i64 (IntKind.i64.wrap (-a))), [], none⟩ := by
 rw [ref01_Neg.eq, ref01_Sub_is]
 simp only [Option.bind_some, onRet_ret, asInt_int]
 rw [Int.zero_sub]
theorem ref01_size_is (a : Int) (h0 : -9223372036854775808 <= a) (h1 : a <= 9223372036854775807) : den Sp ref01_size.id [.int .i64 a] [] none = some ⟨.ret (.int .u64 ((a.natAbs : Nat) : Int)), [], none⟩ := by
 rw [ref01_size.eq]
 by_cases ha : a < 0
 ·rw [decide_eq_true ha, cond_true, ref01_Neg_is]
  simp only [Option.bind_some, onRet_ret, asInt_int]
  congr 4
  rw [IntKind.wrap_i64, IntKind.wrap_u64]; omega
 ·rw [decide_eq_false ha, cond_false]
  congr 4
  rw [IntKind.wrap_u64]; omega
theorem rtext_loop (n : Int) (f : Nat) : ∀ (u : Nat) (acc : List UInt8), u < 10 ^ f -> u < 18446744073709551616 -> 0 < f -> acc.length + f <= 100 -> (acc = [] ∨ 0 < u) ->
  ref01_Text.L1_1_1_0_0 n (B acc) (u : Int) = ref01_Text.L1_1_1_0_0 n (B (decGo f u acc)) 0 := by
 induction f with
 | zero => intro _ _ _ _ h; omega
 | succ f ih =>
  intro u acc hu hu6 _ ha hz
  have one : toBytes [[V.int IntKind.u8 ((dgt u).toNat : Int)]] = [dgt u] := toBytes_bv [dgt u]
  have step : ref01_Text.L1_1_1_0_0 n (B acc) (u : Int) = ref01_Text.L1_1_1_0_0 n (B (dgt u :: acc)) ((u / 10 : Nat) : Int) := by
   rw [ref01_Text.L1_1_1_0_0_eq, dgt_w, div_w u hu6, one]
   have e1 : (ByteArray.mk [dgt u].toArray).size + (B acc).size <= most := by
    rw [B_size]
    show 1 + acc.length <= 1099511627776
    omega
   have e2 : ByteArray.mk [dgt u].toArray ++ B acc = B (dgt u :: acc) := B_append [dgt u] acc
   rw [if_pos e1, e2, B_nil, B_dec]
   by_cases h : acc = []
   ·rw [decide_eq_true h, cond_true]
   ·have h3 : ((u : Int) > 0) := by
     rcases hz with hz | hz
     ·exact absurd hz h
     ·omega
    rw [decide_eq_false h, cond_false, decide_eq_true h3, cond_true]
  rw [step]
  unfold decGo
  by_cases h0 : u / 10 = 0
  ·rw [if_pos h0, h0]; rfl
  ·have h1 : u / 10 < 10 ^ f := by
    rw [Nat.pow_succ] at hu
    omega
   have hf0 : 0 < f := by
    rcases Nat.eq_zero_or_pos f with rfl | h2
    ·simp at h1; omega
    ·exact h2
   rw [if_neg h0]
   refine ih (u / 10) (dgt u :: acc) h1 (by omega) hf0 ?_ (.inr (by omega))
   simp only [List.length_cons]
   omega
theorem ref01_Text_is (n : Int) (h0 : -9223372036854775808 <= n) (h1 : n <= 9223372036854775807) : den Sp ref01_Text.id [.int .i64 n] [] none = some ⟨.ret (.str (B (decs n))), [], none⟩ := by
 have h19 : (10 : Nat) ^ 19 = 10000000000000000000 := by decide
 have hb : n.natAbs < 10 ^ 19 := by rw [h19]; omega
 have hne := decGo_ne 19 n.natAbs [] (by omega)
 have hln := decGo_len 19 n.natAbs []
 have hl := rtext_loop n 19 n.natAbs [] hb (by omega) (by omega) (by simp) (.inl rfl)
 rw [ref01_Text.eq, ref01_size_is n h0 h1]
 simp only [Option.bind_some, onRet_ret, asInt_int]
 rw [B_nil, hl, ref01_Text.L1_1_1_0_0_eq, B_nil, B_dec, decide_eq_false hne, cond_false]
 have h3 : decide ((0 : Int) > 0) = false := rfl
 rw [h3, cond_false, B_size]
 unfold decs
 rw [dec_of 19 n.natAbs hb (by omega) (by omega)]
 by_cases hn : n < 0
 ·have h4 : 1 + (decGo 19 n.natAbs []).length <= most := by
   show 1 + (decGo 19 n.natAbs []).length <= 1099511627776
   simp at hln; omega
  have h5 : ByteArray.mk #[45] ++ B (decGo 19 n.natAbs []) = B (45 :: decGo 19 n.natAbs []) := B_append [45] _
  rw [decide_eq_true hn, cond_true, if_pos h4, h5, if_pos hn]
 ·rw [decide_eq_false hn, cond_false, if_neg hn]
end Go.Proofs.YtmhnmelaodhemaaGreatDoor
namespace Go.Proofs.YtmhnmelaodhemaaGreatDoor
open Go Go.Proofs.Ab
namespace ref02_Signs
theorem eq : den Sp id [] [] none =
  (some ⟨Out.ret (V.sl .no T_string [[V.str (ByteArray.mk #[40])], [V.str (ByteArray.mk #[41])], [V.str (ByteArray.mk #[123])], [V.str (ByteArray.mk #[125])], [V.str (ByteArray.mk #[91])], [V.str (ByteArray.mk #[93])], [V.str (ByteArray.mk #[44])], [V.str (ByteArray.mk #[59])], [V.str (ByteArray.mk #[61])], [V.str (ByteArray.mk #[61, 61])], [V.str (ByteArray.mk #[33, 61])], [V.str (ByteArray.mk #[60])], [V.str (ByteArray.mk #[60, 61])], [V.str (ByteArray.mk #[38, 38])], [V.str (ByteArray.mk #[124, 124])], [V.str (ByteArray.mk #[33])], [V.str (ByteArray.mk #[43])], [V.str (ByteArray.mk #[45])], [V.str (ByteArray.mk #[42])], [V.str (ByteArray.mk #[47])], [V.str (ByteArray.mk #[37])]]), [], none⟩) := (den_eq ..).trans (by kernel_rfl)
end ref02_Signs
end Go.Proofs.YtmhnmelaodhemaaGreatDoor
namespace Go.Proofs.YtmhnmelaodhemaaGreatDoor
open Go Go.Proofs.Ab Go.Proofs.Px
theorem wrap_range (x : Int) : -9223372036854775808 <= IntKind.i64.wrap x ∧ IntKind.i64.wrap x <= 9223372036854775807 := by
 rw [IntKind.wrap_i64]; omega
theorem ref02_run_is (l : List UInt8) (hl : l.length < 4611686018427387904) : den Sp ref02_run.id [.str (B l)] [] none = some ⟨.ret (.int .i64 ((word l).length : Int)), [], none⟩ := by
 rw [ref02_run.eq]
 have key : ∀ k : Nat, k <= l.length -> ref02_run.L1_1_0_0 (B l) (k : Int) = some ⟨.ret (.int .i64 ((k + (word (l.drop k)).length : Nat) : Int)), [], none⟩ := by
  refine down ?_ fun k hk ih => ?_
  ·rw [ref02_run.L1_1_0_0_eq, B_size, decide_eq_false (Int.lt_irrefl _), cond_false, List.drop_length]; rfl
  ·have hlt : ((k : Int) < (l.length : Int)) := by omega
   have hcond : (0 : Int) <= (k : Int) ∧ (k : Int) < (l.length : Int) := ⟨by omega, hlt⟩
   obtain ⟨c, hc⟩ : ∃ c, l.getD k 0 = c := ⟨_, rfl⟩
   have hd := drop_cons hk
   rw [hc] at hd
   rw [ref02_run.L1_1_0_0_eq, wrap_nat (by omega), ih, ref02_inner_is, B_size, decide_eq_true hlt, cond_true, if_pos hcond, Int.toNat_natCast, B_byte, hc]
   simp only [Option.bind_some, onRet_ret, asBool_bool]
   have hw : word (c :: l.drop (k + 1)) = if inn c then c :: word (l.drop (k + 1)) else [] := by unfold word; rw [List.takeWhile_cons]
   rw [hd, hw]
   show (bif inn c then _ else _) = _
   cases hin : inn c with
   | true =>
    simp only [cond_true, if_true, List.length_cons]
    rw [show k + 1 + (word (l.drop (k + 1))).length = k + ((word (l.drop (k + 1))).length + 1) by omega]
   | false => rfl
 have := key 0 (Nat.zero_le _)
 rw [Nat.zero_add, List.drop_zero] at this
 exact this
theorem ref01_Parse_ex (c : UInt8) (r : List UInt8) (hc : dg c = true) (hl : (c :: r).length < 4611686018427387904) : ∃ m e : Int, den Sp ref01_Parse.id [.str (B (c :: r))] [] none = pairV (m, e) := by
 have h45 : ((c.toNat : Int) == (45 : Int)) = false := by
  unfold dg digit at hc
  simp only [Bool.and_eq_true, decide_eq_true_eq] at hc
  exact beq_eq_false_iff_ne.2 (by omega)
 rw [ref01_Parse.eq]
 generalize hw : c :: r = w at *
 have hg : w.getD 0 0 = c := by rw [<- hw]; rfl
 have hpos : 0 < w.length := by rw [<- hw]; simp
 have p1 : (((w.length : Nat) : Int) > 0) := by omega
 have p2 : (0 : Int) <= 0 ∧ (0 : Int) < ((w.length : Nat) : Int) := ⟨Int.le_refl _, p1⟩
 have key : ∀ k : Nat, k <= w.length -> ∀ n : Int, -9223372036854775808 <= n -> n <= 9223372036854775807 -> ∃ m e : Int, ref01_Parse.L1_1_0_1_0 (B w) n (k : Int) = pairV (m, e) := by
  refine down (fun n h0 h1 => ?_) fun k hk ih n h0 h1 => ?_
  ·rw [ref01_Parse.L1_1_0_1_0_eq, B_size, decide_eq_false (Int.lt_irrefl _), cond_false, decide_eq_true p1, cond_true, if_pos p2, B_byte _ 0, hg, h45, cond_false]
   rw [ref01_Text_is n h0 h1]
   simp only [Option.bind_some, onRet_ret, asStr_str]
   cases decide (B (decs n) = B w)
   ·exact ⟨0, 10, rfl⟩
   ·exact ⟨n, 0, rfl⟩
  ·have hlt : ((k : Int) < (w.length : Int)) := by omega
   have hcond : (0 : Int) <= (k : Int) ∧ (k : Int) < (w.length : Int) := ⟨by omega, hlt⟩
   rw [ref01_Parse.L1_1_0_1_0_eq, B_size, decide_eq_true hlt, cond_true, decide_eq_true p1, cond_true, if_pos p2, if_pos hcond, if_pos hcond, if_pos hcond, wrap_nat (by omega), B_byte _ 0, hg, h45, cond_false]
   by_cases h25 : (k : Int) < 25
   ·rw [decide_eq_true h25, cond_true]
    cases decide (byteAt (B w) (k : Int).toNat >= 48) with
    | false => rw [cond_false]; exact ih n h0 h1
    | true =>
     rw [cond_true]
     cases decide (byteAt (B w) (k : Int).toNat <= 57) with
     | false => rw [cond_false]; exact ih n h0 h1
     | true => rw [cond_true]; exact ih _ (wrap_range _).1 (wrap_range _).2
   ·rw [decide_eq_false h25, cond_false]
    rw [ref01_Text_is n h0 h1]
    simp only [Option.bind_some, onRet_ret, asStr_str]
    cases decide (B (decs n) = B w)
    ·exact ⟨0, 10, rfl⟩
    ·exact ⟨n, 0, rfl⟩
 exact key 0 (Nat.zero_le _) 0 (by omega) (by omega)
theorem ref02_Signs_is : den Sp ref02_Signs.id [] [] none = some ⟨.ret (.sl .no T_string ((refSigns.map B).map fun k => [.str k])), [], none⟩ := ref02_Signs.eq
def firstV (t : Tk) (n : Nat) : Option Res := some ⟨.ret (.tup [.agg t.v, .int .i64 (n : Int)]), [], none⟩
def tk0 : Tk := ⟨0, [], 0, 0⟩
theorem first_round (l : List UInt8) (hl : l.length < 4611686018427387904) (k : Nat) (hk : k <= 2) :
  ref02_First.L1_1_1_1_1_1_0_1_0 (B l) 0 ((k + 1 : Nat) : Int) = if k + 1 <= l.length ∧ isSign (l.take (k + 1)) = true then firstV ⟨4, l.take (k + 1), 0, 0⟩ (k + 1) else ref02_First.L1_1_1_1_1_1_0_1_0 (B l) 0 (k : Int) := by
 have e1 : ((k + 1 : Nat) : Int) > 0 := by omega
 have e2 : ((0 : Int) <= ((k + 1 : Nat) : Int)) := by omega
 have e3 : IntKind.wrap IntKind.i64 (((k + 1 : Nat) : Int) - 1) = (k : Int) := by rw [wrap_in (by omega) (by omega)]; omega
 rw [ref02_First.L1_1_1_1_1_1_0_1_0_eq, decide_eq_true e1, cond_true, show ((0 : Int) == 0) = true from rfl, cond_true, e3, if_pos e2, if_pos e2, B_size, Int.toNat_natCast, B_extract, List.drop_zero, Nat.sub_zero, ref02_Signs_is]
 by_cases h : k + 1 <= l.length
 ·have e4 : (((l.length : Nat) : Int) >= ((k + 1 : Nat) : Int)) := by omega
  have e5 : 0 <= k + 1 ∧ k + 1 <= l.length := ⟨by omega, h⟩
  rw [decide_eq_true e4, cond_true, if_pos e5, if_pos e5]
  simp only [Option.bind_some, onRet_ret, asSl_sl]
  rw [ref02_in_is _ _ (by decide), refSigns_is]
  simp only [Option.bind_some, onRet_ret, asBool_bool]
  cases hs : isSign (l.take (k + 1)) with
  | true => rw [cond_true, if_pos ⟨h, rfl⟩]; rfl
  | false => rw [cond_false, if_neg (fun hh => Bool.noConfusion hh.2)]
 ·have e4 : ¬ (((l.length : Nat) : Int) >= ((k + 1 : Nat) : Int)) := by omega
  rw [decide_eq_false e4, cond_false, if_neg (fun hh => h hh.1)]
theorem first_end (l : List UInt8) (n : Int) : ref02_First.L1_1_1_1_1_1_0_1_0 (B l) n 0 = firstV tk0 0 := by
 rw [ref02_First.L1_1_1_1_1_1_0_1_0_eq]; rfl
theorem first_word (l : List UInt8) (n : Nat) (hn : 0 < n) (hn2 : n < 4611686018427387904) : ∀ k : Nat, k <= 2 -> ref02_First.L1_1_1_1_1_1_0_1_0 (B l) (n : Int) (k : Int) = firstV tk0 0
 | 0, _ => first_end l n
 | k + 1, hk => by
  have e1 : ((k + 1 : Nat) : Int) > 0 := by omega
  have e3 : IntKind.wrap IntKind.i64 (((k + 1 : Nat) : Int) - 1) = (k : Int) := by rw [wrap_in (by omega) (by omega)]; omega
  have e2 : ((n : Int) == 0) = false := beq_eq_false_iff_ne.2 (by omega)
  rw [ref02_First.L1_1_1_1_1_1_0_1_0_eq, decide_eq_true e1, cond_true, e2, cond_false, e3]
  exact first_word l n hn hn2 k (by omega)
theorem first_sign (l : List UInt8) (hl : l.length < 4611686018427387904) (hw : word l = []) : den Sp ref02_First.id [.str (B l)] [] none =
  if 2 <= l.length ∧ isSign (l.take 2) = true then firstV ⟨4, l.take 2, 0, 0⟩ 2 else if 1 <= l.length ∧ isSign (l.take 1) = true then firstV ⟨4, l.take 1, 0, 0⟩ 1 else firstV tk0 0 := by
 have e1 : (0 : Int) <= ((([] : List UInt8).length : Nat) : Int) := Int.le_refl _
 have e2 : 0 <= ([] : List UInt8).length ∧ ([] : List UInt8).length <= l.length := ⟨Nat.le_refl _, Nat.zero_le _⟩
 rw [ref02_First.eq, ref02_run_is l hl, hw]
 simp only [Option.bind_some, onRet_ret, asInt_int]
 have e3 : decide (((([] : List UInt8).length : Nat) : Int) > 0) = false := rfl
 rw [if_pos e1, Int.toNat_natCast, B_size, if_pos e2, e3]
 simp only [cond_false]
 have h2 := first_round l hl 1 (by omega)
 have h1 := first_round l hl 0 (by omega)
 have h0 := first_end l 0
 show ref02_First.L1_1_1_1_1_1_0_1_0 (B l) 0 ((1 + 1 : Nat) : Int) = _
 rw [h2, show ((1 : Nat) : Int) = ((0 + 1 : Nat) : Int) from rfl, h1, show ((0 : Nat) : Int) = 0 from rfl, h0]
theorem first_wd (l : List UInt8) (hl : l.length < 4611686018427387904) (hw : word l ≠ []) :
  ∃ (t : Tk) (n : Nat), den Sp ref02_First.id [.str (B l)] [] none = firstV t n ∧
   ((dg (l.getD 0 0) = true ∧ (n = 0 ∨ t.kind = 2)) ∨ (dg (l.getD 0 0) = false ∧ isKeyL (word l) = true ∧ t.kind = 3 ∧ n = (word l).length) ∨
    (dg (l.getD 0 0) = false ∧ isKeyL (word l) = false ∧ isName (B (word l)) = true ∧ t.kind = 1 ∧ n = (word l).length) ∨
    (dg (l.getD 0 0) = false ∧ isKeyL (word l) = false ∧ isName (B (word l)) = false ∧ t.kind = 0 ∧ n = 0)) := by
 have hwl := word_le l
 have hpos : 0 < (word l).length := List.length_pos_iff.2 hw
 have htk : l.take (word l).length = word l := by
  unfold word
  exact (List.prefix_iff_eq_take.1 (List.takeWhile_prefix inn)).symm
 have e1 : (0 : Int) <= (((word l).length : Nat) : Int) := by omega
 have e2 : 0 <= (word l).length ∧ (word l).length <= l.length := ⟨Nat.zero_le _, hwl⟩
 have e3 : ((((word l).length : Nat) : Int) > 0) := by omega
 have e4 : (0 : Int) <= 0 ∧ (0 : Int) < ((l.length : Nat) : Int) := ⟨Int.le_refl _, by omega⟩
 have hloop := first_word l (word l).length hpos (by omega) 2 (by omega)
 rw [show ((2 : Nat) : Int) = 2 from rfl] at hloop
 rw [ref02_First.eq, ref02_run_is l hl]
 simp only [Option.bind_some, onRet_ret, asInt_int]
 rw [if_pos e1, Int.toNat_natCast, B_size, if_pos e2, decide_eq_true e3, cond_true, if_pos e4, ref02_digit_is, B_byte, B_extract, List.drop_zero, Nat.sub_zero, htk, cond_true, cond_true, ref02_Keys_is]
 simp only [Option.bind_some, onRet_ret, asBool_bool]
 have hdg : digit ((l.getD 0 0).toNat : Int) = dg (l.getD 0 0) := rfl
 rw [hdg]
 cases hd : dg (l.getD 0 0) with
 | true =>
  rw [cond_true]
  obtain ⟨c, r, hcr⟩ : ∃ c r, word l = c :: r := by
   cases h : word l with
   | nil => exact absurd h hw
   | cons c r => exact ⟨c, r, rfl⟩
  have hc : l.getD 0 0 = c := by
   have := htk
   rw [hcr] at this
   cases l with
   | nil => simp at this
   | cons a l => simp at this; exact this.1
  obtain ⟨m, e, hp⟩ := ref01_Parse_ex c r (hc ▸ hd) (by rw [<- hcr]; omega)
  rw [hcr, hp]
  unfold pairV
  simp only [Option.bind_some, onRet_ret, tup2]
  cases he : (e != 0) with
  | true =>
   refine ⟨tk0, 0, ?_, .inl ⟨by simp, .inl rfl⟩⟩
   show V.asInt (.int .i64 m) .i64 _ = _
   rw [asInt_int]
   show V.asInt (.int .i64 e) .i64 _ = _
   rw [asInt_int, he]; rfl
  | false =>
   refine ⟨⟨2, [], m, 0⟩, (c :: r).length, ?_, .inl ⟨by simp, .inr rfl⟩⟩
   show V.asInt (.int .i64 m) .i64 _ = _
   rw [asInt_int]
   show V.asInt (.int .i64 e) .i64 _ = _
   rw [asInt_int, he]; rfl
 | false =>
  rw [cond_false]
  simp only [asSl_sl]
  rw [ref02_in_is _ _ (by decide), keysL_is]
  simp only [Option.bind_some, onRet_ret, asBool_bool]
  cases hk : isKeyL (word l) with
  | true => exact ⟨⟨3, word l, 0, 0⟩, (word l).length, rfl, .inr (.inl ⟨by simp, by simp, rfl, rfl⟩)⟩
  | false =>
   rw [cond_false, ref02_IsName_is _ (by rw [B_size]; omega)]
   simp only [Option.bind_some, onRet_ret, asBool_bool]
   cases hn : isName (B (word l)) with
   | true => exact ⟨⟨1, word l, 0, 0⟩, (word l).length, rfl, .inr (.inr (.inl ⟨by simp, by simp, by simp, rfl, rfl⟩))⟩
   | false => exact ⟨tk0, 0, by rw [cond_false, hloop], .inr (.inr (.inr ⟨by simp, by simp, by simp, rfl, rfl⟩))⟩
def Wr (f : FuncId) : Prop := ∀ t : Tk, TkOk t -> ∃ x : List UInt8, den Sp f [.agg t.v] [] none = some ⟨.ret (.tup [.str (B x), .bool (wrOk t)]), [], none⟩ ∧ (wrOk t = true -> x = wrT t)
theorem beq_dec (a b : Int) : (a == b) = decide (a = b) := by
 by_cases h : a = b
 ·subst h; simp
 ·rw [beq_eq_false_iff_ne.2 h, decide_eq_false h]
theorem wr_ret {f : FuncId} {t : Tk} {x : List UInt8} {b : Bool} (h : den Sp f [.agg t.v] [] none = some ⟨.ret (.tup [.str (B x), .bool b]), [], none⟩) (hb : b = wrOk t) (hx : wrOk t = true -> x = wrT t) :
  ∃ x : List UInt8, den Sp f [.agg t.v] [] none = some ⟨.ret (.tup [.str (B x), .bool (wrOk t)]), [], none⟩ ∧ (wrOk t = true -> x = wrT t) := ⟨x, hb ▸ h, hx⟩
theorem lex_written_is : Wr lex_written.id := by
 intro t ht
 have hb := i64_bounds ht.num
 have htl := ht.text
 obtain ⟨kind, text, num, at_⟩ := t
 dsimp only at *
 have e : den Sp lex_written.id [.agg (Tk.v ⟨kind, text, num, at_⟩)] [] none = _ := lex_written.eq kind (B text) num at_
 by_cases h1 : kind = 1
 ·subst h1
  by_cases hn : num = 0
  ·subst hn
   rw [show ((1 : Int) == 1) = true from rfl, cond_true, show ((0 : Int) == 0) = true from rfl, cond_true, lex_IsName_is _ (by rw [B_size]; omega)] at e
   exact wr_ret (x := text) e (by simp [wrOk]) fun _ => by simp [wrT]
  ·rw [show ((1 : Int) == 1) = true from rfl, cond_true, beq_eq_false_iff_ne.2 hn, cond_false] at e
   exact wr_ret (x := text) e (by simp [wrOk, hn]) fun _ => by simp [wrT]
 ·rw [beq_eq_false_iff_ne.2 h1, cond_false] at e
  by_cases h3 : kind = 3
  ·subst h3
   by_cases hn : num = 0
   ·subst hn
    rw [show ((3 : Int) == 3) = true from rfl, cond_true, show ((0 : Int) == 0) = true from rfl, cond_true, lex_isKey_is, isKey_B'] at e
    exact wr_ret (x := text) e (by simp [wrOk]) fun _ => by simp [wrT]
   ·rw [show ((3 : Int) == 3) = true from rfl, cond_true, beq_eq_false_iff_ne.2 hn, cond_false] at e
    exact wr_ret (x := text) e (by simp [wrOk, hn]) fun _ => by simp [wrT]
  ·rw [beq_eq_false_iff_ne.2 h3, cond_false] at e
   by_cases h4 : kind = 4
   ·subst h4
    have hs := sign_self text
    by_cases hn : num = 0
    ·subst hn
     rw [show ((4 : Int) == 4) = true from rfl, cond_true, show ((0 : Int) == 0) = true from rfl, cond_true, lex_sign_is _ (by omega), B_nil, B_dec] at e
     cases he : decide (text = []) with
     | true =>
      rw [he, Bool.not_true, cond_false] at e
      rw [he] at hs
      exact wr_ret (x := text) e (by rw [wrOk, if_neg (by simp), if_neg (by simp), if_pos rfl]; simpa using hs) fun _ => by simp [wrT]
     | false =>
      rw [he, Bool.not_false, cond_true] at e
      rw [he, Bool.not_false, Bool.true_and] at hs
      simp only [Option.bind_some, onRet_ret, asStr_str, B_dec] at e
      exact wr_ret (x := text) e (by rw [wrOk, if_neg (by simp), if_neg (by simp), if_pos rfl]; simpa using hs) fun _ => by simp [wrT]
    ·rw [show ((4 : Int) == 4) = true from rfl, cond_true, beq_eq_false_iff_ne.2 hn, cond_false] at e
     exact wr_ret (x := text) e (by simp [wrOk, hn]) fun _ => by simp [wrT]
   ·rw [beq_eq_false_iff_ne.2 h4, cond_false] at e
    by_cases h2 : kind = 2
    ·subst h2
     rw [show ((2 : Int) == 2) = true from rfl, cond_true, num_Text_is num hb.1 hb.2, B_nil, B_dec] at e
     simp only [Option.bind_some, onRet_ret, asStr_str] at e
     cases he : decide (text = []) with
     | true =>
      rw [he, cond_true] at e
      exact wr_ret (x := decs num) e (by simp [wrOk, he]) fun _ => by simp [wrT]
     | false =>
      rw [he, cond_false] at e
      exact wr_ret (x := decs num) e (by simp [wrOk, he]) fun _ => by simp [wrT]
    ·rw [beq_eq_false_iff_ne.2 h2, cond_false] at e
     exact wr_ret (x := []) e (by simp [wrOk, h1, h2, h3, h4]) fun h => by simp [wrOk, h1, h2, h3, h4] at h
theorem first_whole (l : List UInt8) (hl : l.length < 4611686018427387904) : ∃ (t : Tk) (n : Nat), den Sp ref02_First.id [.str (B l)] [] none = firstV t n ∧
  ∀ kind : Int, kind ≠ 2 -> ((0 < n ∧ n = l.length ∧ t.kind = kind) ↔ (kind = 1 ∧ isName (B l) = true) ∨ (kind = 3 ∧ isKeyL l = true) ∨ (kind = 4 ∧ isSign l = true)) := by
 by_cases hw : word l = []
 ·have hname : isName (B l) = false := by
   rw [<- Bool.not_eq_true]; intro h
   have := name_facts h
   rw [hw] at this
   exact this.1 this.2.2.2.2.symm
  have hkey : isKeyL l = false := by
   rw [<- Bool.not_eq_true]; intro h
   have := key_facts h
   rw [hw] at this
   exact this.1 this.2.2.2.symm
  have hs := first_sign l hl hw
  by_cases h2 : 2 <= l.length ∧ isSign (l.take 2) = true
  ·rw [if_pos h2] at hs
   refine ⟨_, _, hs, fun kind hk => ⟨fun ⟨_, h5, h6⟩ => .inr (.inr ⟨h6.symm, ?_⟩), fun h => ?_⟩⟩
   ·have := h2.2
    rwa [List.take_of_length_le (by omega)] at this
   ·rcases h with ⟨_, h⟩ | ⟨_, h⟩ | ⟨rfl, h⟩
    ·rw [hname] at h; cases h
    ·rw [hkey] at h; cases h
    ·rcases (sign_facts h).2.1 with h7 | h7
     ·omega
     ·exact ⟨by omega, h7.symm, rfl⟩
  ·rw [if_neg h2] at hs
   by_cases h1 : 1 <= l.length ∧ isSign (l.take 1) = true
   ·rw [if_pos h1] at hs
    refine ⟨_, _, hs, fun kind hk => ⟨fun ⟨_, h5, h6⟩ => .inr (.inr ⟨h6.symm, ?_⟩), fun h => ?_⟩⟩
    ·have := h1.2
     rwa [List.take_of_length_le (by omega)] at this
    ·rcases h with ⟨_, h⟩ | ⟨_, h⟩ | ⟨rfl, h⟩
     ·rw [hname] at h; cases h
     ·rw [hkey] at h; cases h
     ·rcases (sign_facts h).2.1 with h7 | h7
      ·exact ⟨by omega, h7.symm, rfl⟩
      ·exact absurd ⟨by omega, by rw [List.take_of_length_le (by omega)]; exact h⟩ h2
   ·rw [if_neg h1] at hs
    refine ⟨_, _, hs, fun kind hk => ⟨fun ⟨h5, _⟩ => by omega, fun h => ?_⟩⟩
    rcases h with ⟨_, h⟩ | ⟨_, h⟩ | ⟨rfl, h⟩
    ·rw [hname] at h; cases h
    ·rw [hkey] at h; cases h
    ·rcases (sign_facts h).2.1 with h7 | h7
     ·exact absurd ⟨by omega, by rw [List.take_of_length_le (by omega)]; exact h⟩ h1
     ·exact absurd ⟨by omega, by rw [List.take_of_length_le (by omega)]; exact h⟩ h2
 ·have hsign : isSign l = false := by
   rw [<- Bool.not_eq_true]; intro h
   exact hw (sign_facts h).1
  obtain ⟨t, n, hd, hc⟩ := first_wd l hl hw
  refine ⟨t, n, hd, fun kind hk => ?_⟩
  rcases hc with ⟨hd, hc⟩ | ⟨hd, hkey, hc, hn⟩ | ⟨hd, hkey, hname, hc, hn⟩ | ⟨hd, hkey, hname, hc, hn⟩
  ·constructor
   ·rintro ⟨h1, _, h3⟩
    rcases hc with hc | hc
    ·omega
    ·exact absurd (h3.symm.trans hc) hk
   ·rintro (⟨_, h⟩ | ⟨_, h⟩ | ⟨_, h⟩)
    ·have := lt_dg (name_facts h).2.2.1
     rw [hd] at this; cases this
    ·have := lt_dg (key_facts h).2.2.1
     rw [hd] at this; cases this
    ·rw [hsign] at h; cases h
  ·constructor
   ·rintro ⟨h1, h2, h3⟩
    have := all_word (hn ▸ h2)
    rw [this] at hkey
    exact .inr (.inl ⟨h3.symm.trans hc, hkey⟩)
   ·rintro (⟨_, h⟩ | ⟨rfl, h⟩ | ⟨_, h⟩)
    ·have h8 := name_facts h
     rw [h8.2.2.2.2, h8.2.2.2.1] at hkey; cases hkey
    ·have h8 := key_facts h
     rw [h8.2.2.2] at hn
     exact ⟨by rw [hn]; exact List.length_pos_iff.2 h8.1, hn, hc⟩
    ·rw [hsign] at h; cases h
  ·constructor
   ·rintro ⟨h1, h2, h3⟩
    have := all_word (hn ▸ h2)
    rw [this] at hname
    exact .inl ⟨h3.symm.trans hc, hname⟩
   ·rintro (⟨rfl, h⟩ | ⟨_, h⟩ | ⟨_, h⟩)
    ·have h8 := name_facts h
     rw [h8.2.2.2.2] at hn
     exact ⟨by rw [hn]; exact List.length_pos_iff.2 h8.1, hn, hc⟩
    ·have h8 := key_facts h
     rw [h8.2.2.2, h] at hkey; cases hkey
    ·rw [hsign] at h; cases h
  ·constructor
   ·rintro ⟨h1, _⟩; omega
   ·rintro (⟨_, h⟩ | ⟨_, h⟩ | ⟨_, h⟩)
    ·have h8 := name_facts h
     rw [h8.2.2.2.2, h] at hname; cases hname
    ·have h8 := key_facts h
     rw [h8.2.2.2, h] at hkey; cases hkey
    ·rw [hsign] at h; cases h
theorem ref02_Text_is : Wr ref02_Text.id := by
 intro t ht
 have hb := i64_bounds ht.num
 have htl := ht.text
 obtain ⟨kind, text, num, at_⟩ := t
 dsimp only at *
 have e : den Sp ref02_Text.id [.agg (Tk.v ⟨kind, text, num, at_⟩)] [] none = _ := ref02_Text.eq kind (B text) num at_
 by_cases h2 : kind = 2
 ·subst h2
  rw [show ((2 : Int) == 2) = true from rfl, cond_true, ref01_Text_is num hb.1 hb.2, B_nil, B_dec] at e
  simp only [Option.bind_some, onRet_ret, asStr_str] at e
  by_cases hn : num >= 0
  ·rw [decide_eq_true hn, cond_true] at e
   have hn' : 0 <= num := hn
   exact wr_ret (x := decs num) e (by simp [wrOk, hn']) fun _ => by simp [wrT]
  ·rw [decide_eq_false hn, cond_false] at e
   have hn' : ¬ 0 <= num := hn
   exact wr_ret (x := decs num) e (by simp [wrOk, hn']) fun _ => by simp [wrT]
 ·rw [beq_eq_false_iff_ne.2 h2, cond_false] at e
  obtain ⟨w, n, hd, hc⟩ := first_whole text (by omega)
  have hc := hc kind h2
  rw [hd] at e
  unfold firstV at e
  simp only [Option.bind_some, onRet_ret, tup2] at e
  rw [tk_agg, tk_0] at e
  have e2 : den Sp ref02_Text.id [.agg (Tk.v ⟨kind, text, num, at_⟩)] [] none = V.asStr (w.v.getD 1 .undef) fun s12 => V.asInt (w.v.getD 2 .undef) IntKind.i64 fun n13 => V.asInt (w.v.getD 3 .undef) IntKind.i64 fun n14 => V.asInt (.int .i64 (n : Int)) IntKind.i64 fun n15 => (bif (num == (0 : Int)) then (bif (decide (n15 > (0 : Int))) then (bif (n15 == (((ByteArray.size (B text)) : Nat) : Int)) then (some ⟨(Out.ret (V.tup [(V.str (B text)), (V.bool (w.kind == kind))])), [], none⟩) else (some ⟨(Out.ret (V.tup [(V.str (B text)), (V.bool Bool.false)])), [], none⟩)) else (some ⟨(Out.ret (V.tup [(V.str (B text)), (V.bool Bool.false)])), [], none⟩)) else (some ⟨(Out.ret (V.tup [(V.str (B text)), (V.bool Bool.false)])), [], none⟩)) := e
  rw [tk_1, tk_2, tk_3, asInt_int, B_size] at e2
  have hwr : wrOk ⟨kind, text, num, at_⟩ = (decide (num = 0) && decide (0 < n ∧ n = text.length ∧ w.kind = kind)) := by
   rw [Bool.eq_iff_iff, Bool.and_eq_true, decide_eq_true_eq, decide_eq_true_eq, hc]
   unfold wrOk
   dsimp only
   by_cases h1 : kind = 1
   ·subst h1; simp
   ·by_cases h3 : kind = 3
    ·subst h3; simp
    ·by_cases h4 : kind = 4
     ·subst h4; simp
     ·simp [h1, h2, h3, h4]
  have hx : wrOk ⟨kind, text, num, at_⟩ = true -> text = wrT ⟨kind, text, num, at_⟩ := fun _ => by simp [wrT, h2]
  by_cases hn : num = 0
  ·rw [beq_iff_eq.2 hn, cond_true] at e2
   rw [decide_eq_true hn, Bool.true_and] at hwr
   by_cases h5 : 0 < n
   ·have h6 : ((n : Int) > 0) := by omega
    rw [decide_eq_true h6, cond_true] at e2
    by_cases h7 : n = text.length
    ·rw [beq_iff_eq.2 (by omega), cond_true] at e2
     refine wr_ret e2 ?_ hx
     have h8 : 0 < text.length := h7 ▸ h5
     rw [hwr, beq_dec]
     simp [h7, h8]
    ·rw [beq_eq_false_iff_ne.2 (by omega), cond_false] at e2
     exact wr_ret e2 (by rw [hwr]; simp [h7]) hx
   ·have h6 : ¬ ((n : Int) > 0) := by omega
    rw [decide_eq_false h6, cond_false] at e2
    exact wr_ret e2 (by rw [hwr]; simp [h5]) hx
  ·rw [beq_eq_false_iff_ne.2 hn, cond_false] at e2
   exact wr_ret e2 (by rw [hwr]; simp [hn]) hx
theorem tkAt (l : List Tk) (i : Nat) (h : i < l.length) : (l.map Tk.v).getD i [] = (l[i]'h).v := by
 rw [List.getD_eq_getElem?_getD, List.getElem?_map, List.getElem?_eq_getElem h]; rfl
theorem rightL_drop {l : List Tk} {i : Nat} (h : i + 1 < l.length) : rightL (l.drop i) = (wrOk (l[i]'(by omega)) && rightL (l.drop (i + 1))) := by
 rw [List.drop_eq_getElem_cons (show i < l.length by omega)]
 cases hd : l.drop (i + 1) with
 | nil =>
  have := congrArg List.length hd
  rw [List.length_drop, List.length_nil] at this; omega
 | cons u r => rfl
theorem rightL_last {l : List Tk} {i : Nat} (h : i + 1 = l.length) : rightL (l.drop i) = endT (l[i]'(by omega)) := by
 rw [List.drop_eq_getElem_cons (show i < l.length by omega), List.drop_eq_nil_of_le (by omega)]
 rfl
theorem end_ret (t : Tk) : (bif (t.kind == (0 : Int)) then (bif (decide (B t.text = B [])) then (some (Res.mk (Out.ret (V.bool (t.num == (0 : Int)))) [] none)) else (some (Res.mk (Out.ret (V.bool Bool.false)) [] none))) else (some (Res.mk (Out.ret (V.bool Bool.false)) [] none))) = some ⟨.ret (.bool (endT t)), [], none⟩ := by
 unfold endT
 rw [beq_dec, beq_dec, B_dec]
 cases decide (t.kind = 0) <;> cases decide (t.text = []) <;> rfl
theorem lex_Right_is (l : List Tk) (hl : l.length < 4611686018427387904) (hk : ∀ t ∈ l, TkOk t) : den Sp lex_Right.id [.sl .no T_api_Token (l.map Tk.v)] [] none = some ⟨.ret (.bool (rightL l)), [], none⟩ := by
 rw [lex_Right.eq, List.length_map]
 have key : ∀ i : Nat, i <= l.length -> lex_Right.L1_0_1_0 (l.map Tk.v) (l.map Tk.v) (l.length : Int) (i : Int) = some ⟨.ret (.bool (rightL (l.drop i))), [], none⟩ := by
  refine down ?_ fun i hi ih => ?_
  ·rw [lex_Right.L1_0_1_0_eq, decide_eq_false (Int.lt_irrefl _), cond_false, List.drop_length]; rfl
  ·have e1 : ((i : Int) < ((l.length : Nat) : Int)) := by omega
   have e2 : (0 : Int) <= (i : Int) ∧ ((i : Int) < ((l.length : Nat) : Int)) := ⟨by omega, e1⟩
   have e3 : IntKind.wrap IntKind.i64 (((l.length : Nat) : Int) - 1) = ((l.length - 1 : Nat) : Int) := by rw [wrap_in (by omega) (by omega)]; omega
   rw [lex_Right.L1_0_1_0_eq, List.length_map, decide_eq_true e1, cond_true, if_pos e2, Int.toNat_natCast, tkAt l i hi, tk_0, tk_1, tk_2, tk_3, wrap_nat (by omega), ih, e3]
   by_cases h : i + 1 = l.length
   ·rw [beq_iff_eq.2 (show ((i : Nat) : Int) = ((l.length - 1 : Nat) : Int) by omega), cond_true, rightL_last h, B_nil]
    exact end_ret _
   ·rw [beq_eq_false_iff_ne.2 (show ((i : Nat) : Int) ≠ ((l.length - 1 : Nat) : Int) by omega), cond_false, rightL_drop (l := l) (i := i) (by omega)]
    obtain ⟨x, hx, _⟩ := lex_written_is (l[i]'hi) (hk _ (List.getElem_mem hi))
    have hx' : den Sp lex_written.id [(V.agg [(V.int IntKind.i64 (l[i]'hi).kind), (V.str (B (l[i]'hi).text)), (V.int IntKind.i64 (l[i]'hi).num), (V.int IntKind.i64 (l[i]'hi).at_)])] [] none = _ := hx
    rw [hx']
    simp only [Option.bind_some, onRet_ret, tup2]
    show (bif !(wrOk (l[i]'hi)) then _ else _) = _
    cases wrOk (l[i]'hi) <;> rfl
 have := key 0 (Nat.zero_le _)
 rw [List.drop_zero] at this
 exact this
theorem ref02_Right_is (l : List Tk) (hl : l.length < 4611686018427387904) (hk : ∀ t ∈ l, TkOk t) : den Sp ref02_Right.id [.sl .no T_api_Token (l.map Tk.v)] [] none = some ⟨.ret (.bool (rightL l)), [], none⟩ := by
 rw [ref02_Right.eq, List.length_map]
 by_cases h0 : l = []
 ·subst h0; rfl
 ·have hpos : 0 < l.length := List.length_pos_iff.2 h0
  have e3 : IntKind.wrap IntKind.i64 (((l.length : Nat) : Int) - 1) = ((l.length - 1 : Nat) : Int) := by rw [wrap_in (by omega) (by omega)]; omega
  have e4 : (0 : Int) <= ((l.length - 1 : Nat) : Int) ∧ ((l.length - 1 : Nat) : Int) < ((l.length : Nat) : Int) := by omega
  have hlast : l.length - 1 < l.length := by omega
  rw [beq_eq_false_iff_ne.2 (show ((l.length : Nat) : Int) ≠ 0 by omega), cond_false, e3, if_pos e4, Int.toNat_natCast, tkAt l _ hlast, tk_0, tk_1, tk_2, tk_3]
  have key : ∀ i : Nat, i <= l.length - 1 -> ref02_Right.L1_1_1_0_1_0 (l.map Tk.v) (i : Int) (l[l.length - 1]'hlast).kind (B (l[l.length - 1]'hlast).text) (l[l.length - 1]'hlast).num (l[l.length - 1]'hlast).at_ = some ⟨.ret (.bool (rightL (l.drop i))), [], none⟩ := by
   refine down ?_ fun i hi ih => ?_
   ·rw [ref02_Right.L1_1_1_0_1_0_eq, List.length_map, e3, decide_eq_false (Int.lt_irrefl _), cond_false, B_nil, rightL_last (by omega)]
    exact end_ret _
   ·have hi2 : i < l.length := by omega
    have e1 : ((i : Int) < ((l.length - 1 : Nat) : Int)) := by omega
    have e2 : (0 : Int) <= (i : Int) ∧ ((i : Int) < ((l.length : Nat) : Int)) := ⟨by omega, by omega⟩
    obtain ⟨x, hx, _⟩ := ref02_Text_is (l[i]'hi2) (hk _ (List.getElem_mem hi2))
    have hx' : den Sp ref02_Text.id [(V.agg [(V.int IntKind.i64 (l[i]'hi2).kind), (V.str (B (l[i]'hi2).text)), (V.int IntKind.i64 (l[i]'hi2).num), (V.int IntKind.i64 (l[i]'hi2).at_)])] [] none = _ := hx
    rw [ref02_Right.L1_1_1_0_1_0_eq, List.length_map, e3, decide_eq_true e1, cond_true, if_pos e2, Int.toNat_natCast, tkAt l i hi2, tk_0, tk_1, tk_2, tk_3, wrap_nat (by omega), ih, hx', rightL_drop (l := l) (i := i) (by omega)]
    simp only [Option.bind_some, onRet_ret, tup2]
    show (bif !(wrOk (l[i]'hi2)) then _ else _) = _
    cases wrOk (l[i]'hi2) <;> rfl
  have := key 0 (Nat.zero_le _)
  rw [List.drop_zero] at this
  exact this
def SimT (a b : Tk) : Prop := a.kind = b.kind ∧ a.text = b.text ∧ a.num = b.num
def Sim (xs ys : List Tk) : Prop := xs.length = ys.length ∧ ∀ (i : Nat) a b, xs[i]? = some a -> ys[i]? = some b -> SimT a b
theorem Sim.nil : Sim [] [] := ⟨rfl, fun i a b h => by simp at h⟩
theorem Sim.snoc {xs ys : List Tk} {a b : Tk} (h : Sim xs ys) (hab : SimT a b) : Sim (xs ++ [a]) (ys ++ [b]) := by
 refine ⟨by simp [h.1], fun i p q hx hy => ?_⟩
 rcases Nat.lt_or_ge i xs.length with hi | hi
 ·rw [List.getElem?_append_left hi] at hx
  rw [List.getElem?_append_left (by rw [<- h.1]; exact hi)] at hy
  exact h.2 i p q hx hy
 ·rw [List.getElem?_append_right hi] at hx
  rw [List.getElem?_append_right (by rw [<- h.1]; exact hi), <- h.1] at hy
  have h0 : i - xs.length = 0 := by
   rcases Nat.eq_zero_or_pos (i - xs.length) with h0 | h0
   ·exact h0
   ·rw [List.getElem?_eq_none (by simp; omega)] at hx; cases hx
  rw [h0] at hx hy
  simp at hx hy
  subst hx; subst hy; exact hab
theorem next_cons (c : UInt8) (r : List UInt8) (a : Int) : next (c :: r) a = if lt c then (⟨if isKeyL (word (c :: r)) then 3 else 1, word (c :: r), 0, a⟩, (word (c :: r)).length, decide ((word (c :: r)).length <= 40))
  else if dg c then (⟨2, [], (parse (word (c :: r))).1, a⟩, (word (c :: r)).length, decide ((parse (word (c :: r))).2 = 0))
  else (⟨4, sign (c :: r), 0, a⟩, (sign (c :: r)).length, !decide (sign (c :: r) = [])) := rfl
theorem next_shift (r : List UInt8) (a a' : Int) : SimT (next r a).1 (next r a').1 ∧ (next r a).2 = (next r a').2 ∧ (next r a).1.at_ = a := by
 cases r with
 | nil => exact ⟨⟨rfl, rfl, rfl⟩, rfl, rfl⟩
 | cons c r =>
  rw [next_cons, next_cons]
  cases lt c <;> cases dg c <;> exact ⟨⟨rfl, rfl, rfl⟩, rfl, rfl⟩
structure Blankish (x : List UInt8) : Prop where
 f : ∀ y, sk false (x ++ y) = sk false y
 t : sk true x = []
 hd : ∃ e x', x = e :: x' ∧ inn e = false ∧ lt e = false ∧ ∀ y ∈ signs, e ∉ y
theorem word_inn : ∀ {w : List UInt8} (h : word w = w), ∀ c ∈ w, inn c = true
 | [], _, c, hc => by cases hc
 | d :: w, h, c, hc => by
  unfold word at h
  rw [List.takeWhile_cons] at h
  cases hd : inn d with
  | false => rw [hd] at h; simp at h
  | true =>
   rw [hd] at h
   simp only [if_true, List.cons.injEq, true_and] at h
   rcases List.mem_cons.1 hc with rfl | hc
   ·exact hd
   ·exact word_inn (w := w) h c hc
theorem worth_mono : ∀ (l : List UInt8) (u : Nat), u <= worth u l
 | [], u => by rw [worth_nil]; exact Nat.le_refl _
 | c :: l, u => by
  have := worth_mono l (u * 10 + (c.toNat - 48))
  rw [worth_cons]; omega
theorem parseGo_worth : ∀ (l : List UInt8) (u : Nat), (∀ c ∈ l, 48 <= c.toNat ∧ c.toNat <= 57) -> worth u l < 9223372036854775808 -> parseGo u l = (((worth u l : Nat) : Int), 0)
 | [], u, _, h => by
  rw [worth_nil] at *
  unfold parseGo
  rw [if_neg (by omega)]
 | c :: l, u, hd, h => by
  have h1 := hd c List.mem_cons_self
  rw [worth_cons] at *
  have h2 := worth_mono l (u * 10 + (c.toNat - 48))
  have h3 : dg c = true := by
   unfold dg digit
   rw [decide_eq_true (by omega), decide_eq_true (by omega)]; rfl
  unfold parseGo
  rw [if_pos ⟨h3, by omega⟩]
  exact parseGo_worth l _ (fun d hd' => hd d (List.mem_cons_of_mem _ hd')) h
theorem parse_dec (n : Nat) (h : n < 9223372036854775808) : parse (dec n) = ((n : Int), 0) := by
 have hp : n < 10 ^ 20 := Nat.lt_trans h (by decide)
 have hw := dec_worth n hp
 have hg := parseGo_worth (dec n) 0 (dec_digits n) (by rw [hw]; exact h)
 unfold parse
 rw [if_pos, hg, hw]
 rcases Nat.eq_zero_or_pos n with rfl | hn
 ·exact .inr rfl
 ·exact .inl (decGo_head 20 n [] hp (by omega) hn)
theorem signIn_head (b : UInt8) (q : List UInt8) : ∀ s : List (List UInt8), (∀ x ∈ s, x ≠ [] ∧ x.getD 0 0 ≠ b) -> signIn (b :: q) s = []
 | [], _ => rfl
 | x :: s, h => by
  unfold signIn
  rw [if_neg, signIn_head b q s fun y hy => h y (List.mem_cons_of_mem _ hy)]
  intro h1
  obtain ⟨h2, h3⟩ := h x List.mem_cons_self
  cases x with
  | nil => exact h2 rfl
  | cons c x =>
   rw [List.length_cons, List.take_succ_cons] at h1
   exact h3 (List.cons.inj h1).1.symm
theorem worth_low : ∀ (l : List UInt8) (u : Nat), u * 10 ^ l.length <= worth u l
 | [], u => by rw [worth_nil]; simp
 | c :: l, u => by
  have h := worth_low l (u * 10 + (c.toNat - 48))
  rw [worth_cons]
  refine Nat.le_trans ?_ h
  rw [List.length_cons, Nat.pow_succ, <- Nat.mul_assoc, Nat.mul_right_comm]
  exact Nat.mul_le_mul_right _ (Nat.le_add_right _ _)
theorem worth_snoc (u : Nat) (l : List UInt8) (c : UInt8) : worth u (l ++ [c]) = worth u l * 10 + (c.toNat - 48) := by
 unfold worth
 rw [List.foldl_append, List.foldl_cons, List.foldl_nil]
theorem dgt_of (c : UInt8) (h : 48 <= c.toNat ∧ c.toNat <= 57) (k : Nat) : dgt (k * 10 + (c.toNat - 48)) = c := by
 apply UInt8.toNat_inj.1
 rw [dgt_nat]; omega
theorem decGo_back (f : Nat) : ∀ (w acc : List UInt8), w ≠ [] -> w.length <= f -> (∀ c ∈ w, 48 <= c.toNat ∧ c.toNat <= 57) -> (w.getD 0 0 ≠ 48 ∨ w.length = 1) -> decGo f (worth 0 w) acc = w ++ acc := by
 induction f with
 | zero =>
  intro w acc hw hl
  exact absurd (List.length_eq_zero_iff.1 (Nat.le_zero.1 hl)) hw
 | succ f ih =>
  intro w acc hw hl hd h0
  obtain ⟨v, c, rfl⟩ : ∃ v c, w = v ++ [c] := ⟨w.dropLast, w.getLast hw, (List.dropLast_concat_getLast hw).symm⟩
  have hc := hd c (by simp)
  have hv : ∀ d ∈ v, 48 <= d.toNat ∧ d.toNat <= 57 := fun d hd' => hd d (by simp [hd'])
  rw [worth_snoc]
  unfold decGo
  rw [dgt_of c hc]
  have hdiv : (worth 0 v * 10 + (c.toNat - 48)) / 10 = worth 0 v := by omega
  rw [hdiv]
  by_cases hv0 : v = []
  ·subst hv0
   rw [worth_nil, if_pos rfl]; rfl
  ·obtain ⟨b, q, hq⟩ : ∃ b q, v = b :: q := by
    cases v with
    | nil => exact absurd rfl hv0
    | cons b q => exact ⟨b, q, rfl⟩
   have hb : b.toNat ≠ 48 := by
    rcases h0 with h0 | h0
    ·rw [hq] at h0
     intro h
     exact h0 (UInt8.toNat_inj.1 h)
    ·rw [hq] at h0; simp at h0
   have hbd := hv b (by rw [hq]; simp)
   have hpos : worth 0 v ≠ 0 := by
    rw [hq, worth_cons]
    have h1 := worth_mono q (0 * 10 + (b.toNat - 48))
    omega
   rw [if_neg hpos, ih v (c :: acc) hv0 (by simp at hl; omega) hv (.inl ?_)]
   ·simp
   ·rw [hq]
    intro h
    exact hb (congrArg UInt8.toNat h)
theorem parseGo_ok : ∀ (l : List UInt8) (u : Nat), (parseGo u l).2 = 0 -> (∀ c ∈ l, 48 <= c.toNat ∧ c.toNat <= 57) ∧ worth u l < 9223372036854775808 + (if l = [] then u else 0) ∧ ((parseGo u l).1 = ((worth u l : Nat) : Int))
 | [], u, h => by
  unfold parseGo at h ⊢
  by_cases h1 : u = 9223372036854775808
  ·rw [if_pos h1] at h; cases h
  ·rw [if_neg h1, worth_nil]
   refine ⟨(fun c hc => by cases hc), ?_, rfl⟩
   rw [if_pos rfl]; omega
 | c :: l, u, h => by
  unfold parseGo at h ⊢
  by_cases h1 : dg c = true ∧ u * 10 + (c.toNat - 48) <= 9223372036854775808
  ·rw [if_pos h1] at h ⊢
   have h2 := parseGo_ok l _ h
   have h3 := h1.1
   unfold dg digit at h3
   simp only [Bool.and_eq_true, decide_eq_true_eq] at h3
   rw [worth_cons, if_neg (by simp)]
   refine ⟨fun d hd => ?_, ?_, h2.2.2⟩
   ·rcases List.mem_cons.1 hd with rfl | hd
    ·omega
    ·exact h2.1 d hd
   ·by_cases hl : l = []
    ·subst hl
     rw [worth_nil]
     unfold parseGo at h
     by_cases h4 : u * 10 + (c.toNat - 48) = 9223372036854775808
     ·rw [if_pos h4] at h; cases h
     ·omega
    ·have := h2.2.1
     rw [if_neg hl] at this
     exact this
  ·rw [if_neg h1] at h; cases h
theorem parse_ok {w : List UInt8} (hw : w ≠ []) (h : (parse w).2 = 0) : ∃ n : Nat, (parse w).1 = (n : Int) ∧ n < 9223372036854775808 ∧ dec n = w := by
 unfold parse at h ⊢
 by_cases h0 : w.getD 0 0 ≠ 48 ∨ w.length = 1
 ·rw [if_pos h0] at h ⊢
  obtain ⟨h1, h2, h3⟩ := parseGo_ok w 0 h
  rw [if_neg hw, Nat.add_zero] at h2
  refine ⟨_, h3, h2, ?_⟩
  have hlen : w.length <= 20 := by
   rcases h0 with h0 | h0
   ·cases w with
    | nil => exact absurd rfl hw
    | cons c w =>
     have hc := h1 c List.mem_cons_self
     have hc2 : c.toNat ≠ 48 := fun h => h0 (UInt8.toNat_inj.1 h)
     have h4 := worth_low w (0 * 10 + (c.toNat - 48))
     rw [worth_cons] at h2
     have h5 : 10 ^ w.length <= (0 * 10 + (c.toNat - 48)) * 10 ^ w.length := Nat.le_mul_of_pos_left _ (by omega)
     have h6 : 10 ^ w.length < 10 ^ 19 := Nat.lt_of_le_of_lt (Nat.le_trans h5 h4) (Nat.lt_trans h2 (by decide))
     have h7 : w.length < 19 := (Nat.pow_lt_pow_iff_right (by decide)).1 h6
     rw [List.length_cons]; omega
   ·omega
  have := decGo_back 20 w [] hw hlen h1 h0
  rw [List.append_nil] at this
  exact this
 ·rw [if_neg h0] at h; cases h
theorem name_of {w : List UInt8} (h1 : w ≠ []) (h2 : w.length <= 40) (h3 : lt (w.getD 0 0) = true) (h4 : isKeyL w = false) (h5 : word w = w) : isName (B w) = true := by
 unfold isName
 simp only [Bool.and_eq_true, decide_eq_true_eq, Bool.not_eq_true', B_size, B_byte]
 refine ⟨⟨⟨⟨List.length_pos_iff.2 h1, h2⟩, h3⟩, (isKey_B w).trans h4⟩, allF_iff.2 fun i _ hi => ?_⟩
 have := word_inn h5 (w[i]'hi) (List.getElem_mem hi)
 rw [List.getD_eq_getElem?_getD, List.getElem?_eq_getElem hi]
 exact this
theorem signIn_prefix (r : List UInt8) : ∀ s, r.take (signIn r s).length = signIn r s
 | [] => rfl
 | x :: s => by
  unfold signIn
  split
  ·assumption
  ·exact signIn_prefix r s
theorem word_word : ∀ r : List UInt8, word (word r) = word r
 | [] => rfl
 | c :: r => by
  have ih := word_word r
  unfold word at *
  rw [List.takeWhile_cons]
  cases hc : inn c with
  | false => simp
  | true => simp only [if_true]; rw [List.takeWhile_cons, hc, if_pos rfl, ih]
theorem word_take_self (r : List UInt8) : r.take (word r).length = word r := by
 unfold word
 exact (List.prefix_iff_eq_take.1 (List.takeWhile_prefix inn)).symm
theorem i64_wf {n : Int} (h0 : -9223372036854775808 <= n) (h1 : n <= 9223372036854775807) : (Lit.int .i64 n).wf = true := by
 simp [Lit.wf, IntKind.min, IntKind.max, IntKind.signed, IntKind.bits, h0, h1]
theorem next_placed (c : UInt8) (q : List UInt8) (a : Nat) (ha : a < 4611686018427387904) (hq : (c :: q).length <= 140737488351232) (hok : (next (c :: q) (a : Int)).2.2 = true) :
  wrOk (next (c :: q) (a : Int)).1 = true ∧ TkOk (next (c :: q) (a : Int)).1 ∧ (next (c :: q) (a : Int)).1.at_ = (a : Int) ∧ wrT (next (c :: q) (a : Int)).1 = (c :: q).take (next (c :: q) (a : Int)).2.1 ∧
   (wrT (next (c :: q) (a : Int)).1).length = (next (c :: q) (a : Int)).2.1 := by
 have hx : next (c :: q) (a : Int) = if lt c then (⟨if isKeyL (word (c :: q)) then 3 else 1, word (c :: q), 0, a⟩, (word (c :: q)).length, decide ((word (c :: q)).length <= 40))
   else if dg c then (⟨2, [], (parse (word (c :: q))).1, a⟩, (word (c :: q)).length, decide ((parse (word (c :: q))).2 = 0))
   else (⟨4, sign (c :: q), 0, a⟩, (sign (c :: q)).length, !decide (sign (c :: q) = [])) := rfl
 have hat : (Lit.int .i64 (a : Int)).wf = true := i64_wf (by omega) (by omega)
 have hwl := word_le (c :: q)
 have hww : inn c = true -> word (c :: q) = c :: word q := fun h => by unfold word; rw [List.takeWhile_cons, h]; rfl
 rw [hx] at hok ⊢
 cases hl : lt c with
 | true =>
  rw [hl] at hok
  simp only [if_true, decide_eq_true_eq] at hok ⊢
  have hin : inn c = true := by
   unfold inn inner
   have : letter (c.toNat : Int) = true := hl
   rw [this]; rfl
  have hne : word (c :: q) ≠ [] := by rw [hww hin]; simp
  have hhd : lt ((word (c :: q)).getD 0 0) = true := by rw [hww hin]; exact hl
  cases hk : isKeyL (word (c :: q)) with
  | true =>
   refine ⟨by simp [wrOk, hk], ⟨?_, i64_wf (by simp) (by simp), i64_wf (by simp) (by simp), hat⟩, by simp, ?_, ?_⟩
   ·show (word (c :: q)).length <= _
    omega
   ·unfold wrT
    dsimp only
    rw [if_neg (by decide), word_take_self]
   ·unfold wrT
    dsimp only
    rw [if_neg (by decide)]
  | false =>
   have hn := name_of hne hok hhd hk (word_word _)
   refine ⟨by simp [wrOk, hn], ⟨?_, i64_wf (by simp) (by simp), i64_wf (by simp) (by simp), hat⟩, by simp, ?_, ?_⟩
   ·show (word (c :: q)).length <= _
    omega
   ·unfold wrT
    dsimp only
    rw [if_neg (by decide), word_take_self]
   ·unfold wrT
    dsimp only
    rw [if_neg (by decide)]
 | false =>
  rw [hl] at hok
  simp only [Bool.false_eq_true, if_false] at hok ⊢
  cases hd : dg c with
  | true =>
   rw [hd] at hok
   simp only [if_true, decide_eq_true_eq] at hok ⊢
   have hne : word (c :: q) ≠ [] := by rw [hww (dg_inn hd)]; simp
   obtain ⟨n, h1, h2, h3⟩ := parse_ok hne hok
   have hdec : decs (parse (word (c :: q))).1 = word (c :: q) := by
    rw [h1]
    unfold decs
    rw [if_neg (by omega), Int.natAbs_natCast, h3]
   refine ⟨?_, ⟨Nat.zero_le _, i64_wf (by simp) (by simp), ?_, hat⟩, by simp, ?_, ?_⟩
   ·have : (0 : Int) <= (parse (word (c :: q))).1 := by omega
    simp [wrOk, this]
   ·show (Lit.int .i64 (parse (word (c :: q))).1).wf = true
    rw [h1]
    exact i64_wf (by omega) (by omega)
   ·unfold wrT
    dsimp only
    rw [if_pos rfl, hdec, word_take_self]
   ·unfold wrT
    dsimp only
    rw [if_pos rfl, hdec]
  | false =>
   rw [hd] at hok
   simp only [Bool.false_eq_true, if_false, Bool.not_eq_true', decide_eq_false_iff_not] at hok ⊢
   have hs : isSign (sign (c :: q)) = true := by
    rcases signIn_or (c :: q) signs with h | h
    ·exact absurd h hok
    ·exact List.contains_iff_mem.2 h
   have hsl := sign_le (c :: q)
   refine ⟨by simp [wrOk, hs], ⟨?_, i64_wf (by simp) (by simp), i64_wf (by simp) (by simp), hat⟩, by simp, ?_, ?_⟩
   ·show (sign (c :: q)).length <= _
    omega
   ·unfold wrT
    dsimp only
    rw [if_neg (by decide)]
    exact (signIn_prefix (c :: q) signs).symm
   ·unfold wrT
    dsimp only
    rw [if_neg (by decide)]
def Pl (l : List UInt8) : Nat -> List Tk -> Prop
 | _, [] => True
 | p, t :: ts => ∃ a : Nat, t.at_ = (a : Int) ∧ p <= a ∧ wrOk t = true ∧ TkOk t ∧ a + (wrT t).length <= l.length ∧ (l.drop a).take (wrT t).length = wrT t ∧ Pl l (a + (wrT t).length) ts
def endTk (n : Nat) : Tk := ⟨0, [], 0, n⟩
theorem scan_placed (l : List UInt8) (hl : l.length <= 140737488351232) : ∀ (f i : Nat) (out : List Tk), i <= l.length -> l.length - i < f ->
  (∃ a e : Int, scanGo f l.length out (l.drop i) = ([], a, e) ∧ e ≠ 0 ∧ 0 <= a ∧ a <= l.length) ∨ (∃ ts, scanGo f l.length out (l.drop i) = (out ++ ts ++ [endTk l.length], 0, 0) ∧ Pl l i ts)
 | 0, i, out, hi, hf => by omega
 | f + 1, i, out, hi, hf => by
  have hskl := sk_le false (l.drop i)
  have hskd := sk_drop false (l.drop i)
  rw [List.length_drop] at hskl
  generalize hj : l.length - (sk false (l.drop i)).length = j
  have hij : i <= j := by omega
  have hjl : j <= l.length := by omega
  have hdj : sk false (l.drop i) = l.drop j := by
   rw [hskd, List.drop_drop]
   congr 1
   rw [List.length_drop]; omega
  rw [scanGo_succ, hdj, List.length_drop]
  have hjj : ((l.length - (l.length - j) : Nat) : Int) = (j : Int) := by omega
  rw [hjj]
  by_cases h1 : (next (l.drop j) (j : Int)).2.2 = false
  ·rw [if_pos h1]
   exact .inl ⟨_, _, rfl, by decide, by omega, by omega⟩
  ·rw [if_neg h1]
   by_cases h2 : out.length = 4000
   ·rw [if_pos h2]
    exact .inl ⟨_, _, rfl, by decide, by omega, by omega⟩
   ·rw [if_neg h2]
    have hok : (next (l.drop j) (j : Int)).2.2 = true := by simpa using h1
    rcases Nat.lt_or_ge j l.length with hjlt | hjge
    ·have hc := drop_cons hjlt
     have hpl := next_placed (l.getD j 0) (l.drop (j + 1)) j (by omega) (by rw [<- hc, List.length_drop]; omega) (by rw [<- hc]; exact hok)
     rw [<- hc] at hpl
     obtain ⟨p1, p2, p3, p4, p5⟩ := hpl
     have hk : (next (l.drop j) (j : Int)).1.kind ≠ 0 := fun h => by
      unfold wrOk at p1
      rw [h] at p1
      simp at p1
     have hpos := next_pos (l.drop j) j hok hk
     have hnl := next_le (l.drop j) (j : Int)
     rw [List.length_drop] at hnl
     rw [if_neg hk, List.drop_drop]
     rcases scan_placed l hl f (j + (next (l.drop j) (j : Int)).2.1) (out ++ [(next (l.drop j) (j : Int)).1]) (by omega) (by omega) with h | ⟨ts, h3, h4⟩
     ·exact .inl h
     ·refine .inr ⟨(next (l.drop j) (j : Int)).1 :: ts, ?_, j, p3, hij, p1, p2, by omega, ?_, ?_⟩
      ·rw [h3]; simp
      ·rw [p5]; exact p4.symm
      ·rw [p5]; exact h4
    ·have hj0 : l.drop j = [] := List.drop_eq_nil_of_le hjge
     have hjn : j = l.length := by omega
     rw [hj0]
     refine .inr ⟨[], ?_, trivial⟩
     rw [List.append_nil]
     have : (next [] (j : Int)).1 = endTk l.length := by
      subst hjn; rfl
     rw [this, if_pos (show (endTk l.length).kind = 0 from rfl)]
theorem pl_right {l : List UInt8} : ∀ (ts : List Tk) (p : Nat), Pl l p ts -> rightL (ts ++ [endTk l.length]) = true
 | [], _, _ => rfl
 | t :: ts, p, ⟨a, h1, h2, h3, h4, h5, h6, h7⟩ => by
  have ih := pl_right ts _ h7
  cases hts : ts ++ [endTk l.length] with
  | nil => simp at hts
  | cons u q =>
   rw [hts] at ih
   rw [List.cons_append, hts]
   show (wrOk t && rightL (u :: q)) = true
   rw [h3, ih]; rfl
attribute [local congr] bind_h asInt_h asBool_h asStr_h asSl_h asSlR_h asAgg_h asTup_h asIface_h asCells_h onRet_h onOut_h cond_h
def Fl.dv (f : Fl) : List V := [.sl .no T_api_Pair (f.pairs.map Pai.v), .sl .no T_api_Pair (f.sames.map Pai.v), .sl .no T_decl_Keep (f.keeps.map Kp.v), .sl .no T_decl_Break (f.breaks.map Bk.v), .sl .no T_decl_Watch (f.watches.map Wt.v)]
def parseV (r : Fl × Int × Int) : Option Res := some ⟨.ret (.tup [.agg r.1.dv, .int .i64 r.2.1, .int .i64 r.2.2]), [], none⟩
section
variable {l : List Tk} (hl : Ended l) (hn : l.length <= 100000)
include hl hn
theorem lineR_step {k : Nat} (hk : k < l.length) {f g : Fl} {j : Nat} (h : lineR l f k = .ok (g, j)) : Step l k j := by
 unfold lineR at h
 obtain ⟨f1, k1, h1, h⟩ := andR_ok h
 obtain ⟨_, k2, h2, h⟩ := andR_ok h
 have full : ∀ {α : Type} {n most : Nat} {r : Rf α} {x : α × Nat}, fullR l n most k r = .ok x -> r = .ok x := fun h => by
  unfold fullR at h
  split at h
  ·cases h
  ·exact h
 have keep : ∀ {x : Int × List UInt8 × List UInt8} {j : Nat}, k + 1 < l.length -> keepR l (k + 1) = .ok (x, j) -> k < j ∧ j < l.length := fun s0 h => by
  unfold keepR at h
  obtain ⟨_, _, g1, h⟩ := andR_ok h
  have s1 := (sideR_step hl s0 g1).1
  obtain ⟨_, _, g1, h⟩ := andR_ok h
  have s2 := (nameR_step hl s1.end_ g1).1
  obtain ⟨_, _, g1, h⟩ := andR_ok h
  have s3 := (nameR_step hl s2.end_ g1).1
  have := s1.lt
  have := s2.lt
  have := s3.lt
  have := s3.end_
  cases h; omega
 have s1 : k < k1 ∧ k1 < l.length := by
  unfold itemR at h1
  split at h1
  ·rename_i c
   have s0 : k + 1 < l.length := hl.next hk (by rw [(isW_kind c).1]; decide)
   obtain ⟨_, _, g1, h1⟩ := andR_ok (full h1)
   have s1 := (nameR_step hl s0 g1).1
   obtain ⟨_, _, g1, h1⟩ := andR_ok h1
   have s2 := (nameR_step hl s1.end_ g1).1
   have := s1.lt
   have := s2.lt
   have := s2.end_
   cases h1; omega
  split at h1
  ·rename_i c
   have s0 : k + 1 < l.length := hl.next hk (by rw [(isW_kind c).1]; decide)
   obtain ⟨_, _, g1, h1⟩ := andR_ok (full h1)
   have s1 := sameR_step hl hn s0 g1
   have := s1.lt
   have := s1.end_
   cases h1; omega
  split at h1
  ·rename_i c
   have s0 : k + 1 < l.length := hl.next hk (by rw [(isW_kind c).1]; decide)
   obtain ⟨_, _, g1, h1⟩ := andR_ok (full h1)
   have := keep s0 g1
   cases h1; omega
  split at h1
  ·rename_i c
   have s0 : k + 1 < l.length := hl.next hk (by rw [(isW_kind c).1]; decide)
   obtain ⟨_, _, g1, h1⟩ := andR_ok (full h1)
   have s1 := stopR_step hl hn s0 g1
   have := s1.lt
   have := s1.end_
   cases h1; omega
  split at h1
  ·rename_i c
   have s0 : k + 1 < l.length := hl.next hk (by rw [(isW_kind c).1]; decide)
   obtain ⟨_, _, g1, h1⟩ := andR_ok (full h1)
   have := keep s0 g1
   cases h1; omega
  ·cases h1
 have s2 := (signR_step hl s1.2 h2).1
 have := s2.lt
 have := s2.end_
 cases h
 exact ⟨by omega, by omega⟩
theorem file_d (hE : ReadsE syntax_ReadExpr.id l) (i0 i1 : Int) : ∀ (n k : Nat) (f : Fl), k < l.length -> l.length - k < n ->
  decl_Parse.L1_1_1_1_1_0_0 i0 i1 (l.map Tk.v) (k : Int) (f.pairs.map Pai.v) (f.sames.map Pai.v) (f.keeps.map Kp.v) (f.breaks.map Bk.v) (f.watches.map Wt.v) =
   parseV (toldF (fileR l n f k))
 | 0, k, f, _, h => by omega
 | n + 1, k, f, hk, h => by
  have r := row_in hk
  rw [fileR]
  unfold parseV toldF
  by_cases c : (tk l k).kind = 0
  ·have c' : ((tk l k).kind != 0) = false := by simpa using c
   rw [if_pos c]
   unfold Fl.dv
   rw [decl_Parse.L1_1_1_1_1_0_0_eq]
   simp only [if_pos r, Int.toNat_natCast, tok_g hk, tkv_0, tkv_1, tkv_2, tkv_3, c', decl_Parse_1.eq0, onPn_none, onPn_some, lz, lx, if_true, if_false, lb]
  ·have c' : ((tk l k).kind != 0) = true := by simpa using c
   rw [if_neg c]
   have hd := line_d hl hn hE hk f
   unfold RdL at hd
   cases hq : lineR l f k with
   | error e =>
    rw [hq] at hd
    obtain ⟨j, g, hd⟩ := hd
    unfold Fl.dv
    unfold rd7 givenD at hd
    rw [decl_Parse.L1_1_1_1_1_0_0_eq]
    simp only [if_pos r, Int.toNat_natCast, tok_g hk, tkv_0, tkv_1, tkv_2, tkv_3, c', hd, decl_Parse_1.eq1, onPn_none, onPn_some, emptyF, List.map_nil, lz, lx, if_true, if_false, lb]
   | ok q =>
    obtain ⟨g, j⟩ := q
    rw [hq] at hd
    have s := lineR_step hl hn hk hq
    have ih := file_d hE i0 i1 n j g s.end_ (by have := s.lt; omega)
    simp only at hd ⊢
    refine Eq.trans ?_ ih
    unfold rd7 at hd
    rw [decl_Parse.L1_1_1_1_1_0_0_eq]
    simp only [if_pos r, Int.toNat_natCast, tok_g hk, tkv_0, tkv_1, tkv_2, tkv_3, c', hd, lz, lx, if_true, if_false, lb]
end
theorem scan_len : ∀ (f n : Nat) (out : List Tk) (r : List UInt8), out.length <= 4000 -> (scanGo f n out r).1.length <= 4001
 | 0, _, _, _, _ => by simp [scanGo]
 | f + 1, n, out, r, h => by
  rw [scanGo_succ]
  split
  ·simp
  split
  ·simp
  split
  ·simp only [List.length_append, List.length_singleton]; omega
  ·exact scan_len f n _ _ (by rw [List.length_append, List.length_singleton]; omega)
theorem pl_mem {l : List UInt8} : ∀ (ts : List Tk) (p : Nat), Pl l p ts -> ∀ t ∈ ts, wrOk t = true ∧ TkOk t
 | t :: ts, p, ⟨a, h1, h2, h3, h4, h5, h6, h7⟩, u, hu => by
  rcases List.mem_cons.1 hu with rfl | hu
  ·exact ⟨h3, h4⟩
  ·exact pl_mem ts _ h7 u hu
theorem wrOk_kind {t : Tk} (h : wrOk t = true) : t.kind ≠ 0 := fun h0 => by
 unfold wrOk at h
 rw [h0] at h
 simp at h
theorem scan_ended {s : List UInt8} (hs : s.length <= 140737488351232) (h : (scan s).2.2 = 0) : Ended (scan s).1 ∧ (scan s).1.length <= 4001 ∧ 0 < (scan s).1.length ∧ (∀ t ∈ (scan s).1, TkOk t) ∧ rightL (scan s).1 = true := by
 unfold scan at *
 by_cases c : s.length > 16384
 ·rw [if_pos c] at h; cases h
 rw [if_neg c] at h ⊢
 have hlen := scan_len (s.length + 1) s.length [] s (by simp)
 have hp := scan_placed s (by omega) (s.length + 1) 0 [] (by omega) (by omega)
 rw [List.drop_zero] at hp
 rcases hp with ⟨a, e, h1, h2, _⟩ | ⟨ts, h1, h2⟩
 ·rw [h1] at h; exact absurd h h2
 ·rw [h1] at hlen ⊢
  rw [List.nil_append] at hlen ⊢
  have hm := pl_mem ts 0 h2
  have hL : (ts ++ [endTk s.length]).length = ts.length + 1 := by simp
  have ha : ∀ (k : Nat) (hk : k < (ts ++ [endTk s.length]).length), tk (ts ++ [endTk s.length]) k = (ts ++ [endTk s.length])[k]'hk := fun k hk => by
   unfold tk
   rw [List.getD_eq_getElem?_getD, List.getElem?_eq_getElem hk]; rfl
  refine ⟨⟨fun k hk => ?_⟩, hlen, by simp, fun t ht => ?_, pl_right ts 0 h2⟩
  ·have hk' : k < ts.length + 1 := by rw [<- hL]; exact hk
   rw [ha k hk, hL]
   by_cases k1 : k < ts.length
   ·rw [List.getElem_append_left k1]
    have := wrOk_kind (hm _ (List.getElem_mem k1)).1
    constructor
    ·intro h0; exact absurd h0 this
    ·intro h0; omega
   ·rw [List.getElem_append_right (by omega)]
    simp only [List.getElem_singleton]
    constructor
    ·intro _; omega
    ·intro _; rfl
  ·rcases List.mem_append.1 ht with ht | ht
   ·exact (hm t ht).2
   ·rw [List.mem_singleton.1 ht]
    exact ⟨by simp [endTk], (by decide : (Lit.int .i64 0).wf = true), (by decide : (Lit.int .i64 0).wf = true), i64_wf (by simp [endTk]) (by simp [endTk]; omega)⟩
theorem lex_Scan_all (l : List UInt8) (hl : l.length <= 140737488351232) : den Sp lex_Scan.id [.str (B l)] [] none = scanV (scan l) := by
 by_cases h : l.length > 16384
 ·rw [lex_Scan.eq, B_size]
  unfold scan
  rw [if_pos h, decide_eq_true (show ((l.length : Nat) : Int) > 16384 by omega)]; rfl
 ·exact lex_Scan_is l (by omega)
theorem decl_Parse_is (s : List UInt8) (hs : s.length <= 140737488351232) : den Sp decl_Parse.id [.str (B s)] [] none = parseV (parseF s) := by
 have h1 := lex_Scan_all s hs
 unfold scanV at h1
 unfold parseF
 by_cases c : (scan s).2.2 = 0
 ·obtain ⟨g1, g2, g3, g4, g5⟩ := scan_ended hs c
  have hr := lex_Right_is (scan s).1 (by omega) g4
  rw [g5] at hr
  have hE := syntax_ReadExpr_is g1 (by omega) hr
  have hf := file_d g1 (by omega) hE (scan s).2.1 (scan s).2.2 ((scan s).1.length + 1) 0 emptyF g3 (by omega)
  have c' : ((scan s).2.2 != 0) = false := by simpa using c
  rw [if_neg (fun h => h c), <- hf]
  unfold emptyF
  rw [decl_Parse.eq]
  simp only [h1, c', asTup_3, List.map_nil, Int.natCast_zero, lz, lx, if_true, if_false, lb]
 ·have c' : ((scan s).2.2 != 0) = true := by simpa using c
  rw [if_pos c]
  unfold parseV Fl.dv emptyF
  rw [decl_Parse.eq]
  simp only [h1, c', asTup_3, List.map_nil, lz, lx, if_true, if_false, lb]
end Go.Proofs.YtmhnmelaodhemaaGreatDoor
namespace Go.Proofs.YtmhnmelaodhemaaGreatDoor
open Go Go.Proofs.Ab Go.Proofs.Px
def Tel {α : Type} (l : List Tk) (s : Rs) (r : Rf α) (s' : Rs) (x' : α) : Prop := match r with
 | .ok (x, j) => s' = ⟨j, 0, s.a⟩ ∧ x' = x
 | .error e => e.2 ≠ 0 ∧ s'.e = e.2 ∧ s'.a = e.1
def Stay (s s' : Rs) : Prop := s.e ≠ 0 -> s'.e = s.e ∧ s'.a = s.a
theorem Stay.refl (s : Rs) : Stay s s := fun _ => ⟨rfl, rfl⟩
theorem Stay.trans {a b c : Rs} (h : Stay a b) (k : Stay b c) : Stay a c := fun ha => by
 obtain ⟨h1, h2⟩ := h ha
 obtain ⟨h3, h4⟩ := k (by rw [h1]; exact ha)
 exact ⟨h3.trans h1, h4.trans h2⟩
theorem Tel.bind {α β : Type} {l : List Tk} {s s1 s2 : Rs} {r : Rf α} {x1 : α} {f : α -> Nat -> Rf β} {y : β} (h : Tel l s r s1 x1) (g : s1.e = 0 -> Tel l s1 (f x1 s1.k) s2 y) (b : Stay s1 s2) : Tel l s (andR r f) s2 y := by
 unfold andR
 cases r with
 | error e =>
  obtain ⟨h1, h2, h3⟩ := h
  obtain ⟨h4, h5⟩ := b (by rw [h2]; exact h1)
  exact ⟨h1, h4.trans h2, h5.trans h3⟩
 | ok p =>
  obtain ⟨x, j⟩ := p
  obtain ⟨h1, rfl⟩ := h
  subst h1
  exact g rfl
theorem Tel.ok {α : Type} {l : List Tk} {s : Rs} (he : s.e = 0) (x : α) : Tel l s (.ok (x, s.k)) s x := ⟨by cases s; simp only at he; subst he; rfl, rfl⟩
theorem take_stay (l : List Tk) (s : Rs) (k : Int) (t : List UInt8) : Stay s (s.take l k t) := fun he => by
 unfold Rs.take Rs.is Rs.fail
 rw [if_neg (by simp [he]), if_neg he]
 exact ⟨rfl, rfl⟩
theorem next_stay (s : Rs) : Stay s s.next := fun _ => ⟨rfl, rfl⟩
theorem side_stay (l : List Tk) (s : Rs) : Stay s (s.side l) := fun he => by
 unfold Rs.side
 split
 ·exact ⟨rfl, rfl⟩
 ·exact take_stay l s _ _ he
theorem name_stay (l : List Tk) (s : Rs) : Stay s (s.name l) := take_stay l s _ _
theorem semi_stay (l : List Tk) (s : Rs) : Stay s (s.semi l) := take_stay l s _ _
theorem half_stay (l : List Tk) (s : Rs) : Stay s (s.half l) := (name_stay l s).trans ((take_stay l _ _ _).trans ((name_stay l _).trans (take_stay l _ _ _)))
theorem triple_stay (l : List Tk) (s : Rs) : Stay s (s.triple l) := (side_stay l s).trans ((name_stay l _).trans (name_stay l _))
section
variable {l : List Tk} {s : Rs} (he : s.e = 0)
include he
theorem is_good (k : Int) (t : List UInt8) : s.is l k t = (decide ((tk l s.k).kind = k) && (decide (t = []) || decide ((tk l s.k).text = t))) := by
 unfold Rs.is; rw [he]; simp
theorem name_tel : Tel l s (nameR l s.k) (s.name l) (s.nameT l) := by
 unfold nameR wrongR Rs.name Rs.nameT Rs.take Rs.took Rs.next Rs.fail
 rw [is_good he, he]
 by_cases c : (tk l s.k).kind = 1
 ·simp [c, Tel]
 ·simp [c, Tel]
theorem sign_tel {t : List UInt8} (ht : t ≠ []) : Tel l s (signR l t s.k) (s.take l 4 t) () := by
 unfold signR wrongR isS Rs.take Rs.next Rs.fail
 rw [is_good he, he]
 by_cases c : (tk l s.k).kind = 4 <;> by_cases c2 : (tk l s.k).text = t <;> simp [c, c2, ht, Tel]
theorem int_tel : Tel l s (intR l s.k) (s.take l 2 []) (s.took l 2 []).num := by
 unfold intR wrongR Rs.take Rs.took Rs.next Rs.fail
 rw [is_good he, he]
 by_cases c : (tk l s.k).kind = 2
 ·simp [c, Tel]
 ·simp [c, Tel]
theorem side_tel : Tel l s (sideR l s.k) (s.side l) (s.sideN l) := by
 unfold sideR wrongR isW Rs.side Rs.sideN Rs.take Rs.next Rs.fail
 rw [is_good he, is_good he, he]
 by_cases c : (tk l s.k).kind = 1
 ·by_cases c2 : (tk l s.k).text = [108, 101, 102, 116]
  ·simp [c, c2, Tel]
  ·by_cases c3 : (tk l s.k).text = [114, 105, 103, 104, 116]
   ·simp [c, c3, Tel]
   ·simp [c, c2, c3, Tel]
 ·simp [c, Tel]
theorem is_word (t : List UInt8) (ht : t ≠ []) : s.is l 1 t = isW (tk l s.k) t := by
 rw [is_good he]
 unfold isW
 simp [ht]
end
theorem half_tel {l : List Tk} {s : Rs} (he : s.e = 0) : Tel l s (halfR l s.k) (s.half l) (s.halfP l, s.halfV l) := by
 unfold halfR Rs.half Rs.halfP Rs.halfV
 refine (name_tel he).bind (fun h1 => (sign_tel h1 (by decide)).bind (fun h2 => (name_tel h2).bind (fun h3 => (sign_tel h3 (by decide)).bind (fun h4 => .ok h4 _) (.refl _)) (take_stay _ _ _ _)) ((name_stay l _).trans (take_stay _ _ _ _))) ((take_stay _ _ _ _).trans ((name_stay l _).trans (take_stay _ _ _ _)))
theorem same_tel {l : List Tk} {s : Rs} (he : s.e = 0) : Tel l s (sameR l s.k) ((s.half l).half l) ⟨s.halfP l, (s.half l).halfP l, s.halfV l, (s.half l).halfV l⟩ := by
 unfold sameR
 exact (half_tel he).bind (fun h1 => (half_tel h1).bind (fun h2 => .ok h2 _) (.refl _)) (half_stay l _)
theorem keep_tel {l : List Tk} {s : Rs} (he : s.e = 0) : Tel l s (keepR l s.k) (s.triple l) (s.sideN l, (s.side l).nameT l, ((s.side l).name l).nameT l) := by
 unfold keepR Rs.triple
 exact (side_tel he).bind (fun h1 => (name_tel h1).bind (fun h2 => (name_tel h2).bind (fun h3 => .ok h3 _) (.refl _)) (name_stay l _)) ((name_stay l _).trans (name_stay l _))
theorem full_tel {α : Type} {l : List Tk} {s : Rs} (he : s.e = 0) {n : Nat} {r : Rf α} {s' : Rs} {x : α} (g : s.most l n 40 = s -> Tel l s r s' x) (b : Stay (s.most l n 40) s') : Tel l s (fullR l n 40 s.k r) s' x := by
 unfold fullR
 by_cases c : 40 <= n
 ·rw [if_pos c]
  have e : s.most l n 40 = ⟨s.k, 2, (tk l s.k).at_⟩ := by
   unfold Rs.most Rs.fail
   rw [if_pos (by omega), if_pos he]
  rw [e] at b
  have := b (by show (2 : Int) ≠ 0; decide)
  exact ⟨(by decide : (2 : Int) ≠ 0), this.1, this.2⟩
 ·rw [if_neg c]
  exact g (by unfold Rs.most; rw [if_neg (by omega)])
theorem Tel.next {α : Type} {l : List Tk} {s : Rs} {r : Rf α} {s' : Rs} {x : α} (h : Tel l s.next r s' x) : Tel l s r s' x := h
theorem stop_mk (l : List Tk) (k : Nat) (h : isW (tk l k) [119, 104, 101, 110] = true) : whenR l k = andR (partR l 1 (k + 1) (tightW l 1 1 (k + 1))) fun x k => .ok ([x], k) := by unfold whenR; rw [if_pos h]
theorem stop_mk0 (l : List Tk) (k : Nat) (h : isW (tk l k) [119, 104, 101, 110] = false) : whenR l k = .ok ([], k) := by unfold whenR; rw [if_neg (by simp [h])]
section
variable {l : List Tk} (hl : Ended l) (hn : l.length <= 100000)
include hl hn
theorem break_tel {s : Rs} (hk : s.k < l.length) (he : s.e = 0) (f : Fl) (c : isW (tk l s.k) [98, 114, 101, 97, 107] = true) :
  Tel l s (andR (fullR l f.breaks.length 40 s.k (andR (stopR l (s.k + 1)) fun b k => .ok ({ f with breaks := f.breaks ++ [b] }, k))) fun f k => andR (signR l [59] k) fun _ k => .ok (f, k)) (breakS l s f).1 (breakS l s f).2 := by
 have hk1 : s.next.k < l.length := hl.next hk (by rw [(isW_kind c).1]; decide)
 unfold breakS
 simp only
 by_cases c4 : 40 <= f.breaks.length
 ·have e : s.most l f.breaks.length 40 = ⟨s.k, 2, (tk l s.k).at_⟩ := by
   unfold Rs.most Rs.fail
   rw [if_pos (by omega), if_pos he]
  unfold fullR
  rw [if_pos c4, e]
  have b : Stay ⟨s.k, 2, (tk l s.k).at_⟩ ((((Rs.next ⟨s.k, 2, (tk l s.k).at_⟩).side l).name l).take l 2 []) := (next_stay _).trans ((side_stay l _).trans ((name_stay l _).trans (take_stay _ _ _ _)))
  have b1 := b (by show (2 : Int) ≠ 0; decide)
  have b2 := (b.trans (semi_stay l _)) (by show (2 : Int) ≠ 0; decide)
  rw [if_neg]
  ·exact ⟨(by decide : (2 : Int) ≠ 0), b2.1, b2.2⟩
  ·intro h
   have := (Rs.is_kind h).1
   rw [b1.1] at this
   cases this
 ·have e : s.most l f.breaks.length 40 = s := by unfold Rs.most; rw [if_neg (by omega)]
  unfold fullR
  rw [if_neg c4, e, stopR_mk]
  have he1 : s.next.e = 0 := he
  have t1 := side_tel (l := l) he1
  cases q1 : sideR l (s.k + 1) with
  | error e1 =>
   have t1 : Tel l s.next (sideR l (s.k + 1)) _ _ := t1
   rw [q1] at t1
   obtain ⟨g1, g2, g3⟩ := t1
   have b : Stay (s.next.side l) (((s.next.side l).name l).take l 2 []) := (name_stay l _).trans (take_stay _ _ _ _)
   have b1 := b (by rw [g2]; exact g1)
   have b2 := (b.trans (semi_stay l _)) (by rw [g2]; exact g1)
   rw [if_neg]
   ·exact ⟨g1, b2.1.trans g2, b2.2.trans g3⟩
   ·intro h
    have := (Rs.is_kind h).1
    rw [b1.1, g2] at this
    exact g1 this
  | ok p1 =>
  obtain ⟨x1, k1⟩ := p1
  have t1 : Tel l s.next (sideR l (s.k + 1)) _ _ := t1
  rw [q1] at t1
  obtain ⟨g1, g1'⟩ := t1
  have hk2 := (sideR_step hl hk1 q1).1.end_
  simp only [andR]
  rw [g1, g1']
  have t2 := name_tel (l := l) (s := ⟨k1, 0, s.next.a⟩) rfl
  simp only at t2
  cases q2 : nameR l k1 with
  | error e1 =>
   rw [q2] at t2
   obtain ⟨g2, g3, g4⟩ := t2
   have b : Stay (Rs.name l ⟨k1, 0, s.next.a⟩) ((Rs.name l ⟨k1, 0, s.next.a⟩).take l 2 []) := take_stay _ _ _ _
   have b1 := b (by rw [g3]; exact g2)
   have b2 := (b.trans (semi_stay l _)) (by rw [g3]; exact g2)
   rw [if_neg]
   ·exact ⟨g2, b2.1.trans g3, b2.2.trans g4⟩
   ·intro h
    have := (Rs.is_kind h).1
    rw [b1.1, g3] at this
    exact g2 this
  | ok p2 =>
  obtain ⟨x2, k2⟩ := p2
  rw [q2] at t2
  obtain ⟨g2, g2'⟩ := t2
  have hk3 := (nameR_step hl hk2 q2).1.end_
  simp only at g2
  rw [g2, g2']
  have t3 := int_tel (l := l) (s := ⟨k2, 0, s.next.a⟩) rfl
  simp only at t3
  simp only
  cases q3 : intR l k2 with
  | error e1 =>
   rw [q3] at t3
   obtain ⟨g3, g4, g5⟩ := t3
   have b2 := (semi_stay l (Rs.take l ⟨k2, 0, s.next.a⟩ 2 [])) (by rw [g4]; exact g3)
   rw [if_neg]
   ·exact ⟨g3, b2.1.trans g4, b2.2.trans g5⟩
   ·intro h
    have := (Rs.is_kind h).1
    rw [g4] at this
    exact g3 this
  | ok p3 =>
  obtain ⟨x3, k3⟩ := p3
  rw [q3] at t3
  obtain ⟨g3, g3'⟩ := t3
  have hk4 := (intR_step hl hk3 q3).1.end_
  simp only at g3
  rw [g3, g3']
  simp only
  rw [is_word (s := ⟨k3, 0, s.next.a⟩) rfl _ (by decide)]
  cases cw : isW (tk l k3) [119, 104, 101, 110] with
  | false =>
   rw [stop_mk0 _ _ cw, if_neg (by simp)]
   simp only
   exact (sign_tel (s := ⟨k3, 0, s.next.a⟩) rfl (by decide)).bind (fun h => .ok h _) (.refl _)
  | true =>
   rw [stop_mk _ _ cw, if_pos rfl]
   have hk5 : k3 + 1 < l.length := hl.next hk4 (by rw [(isW_kind cw).1]; decide)
   show Tel l s _ _ _
   cases q5 : partR l 1 (k3 + 1) (tightW l 1 1 (k3 + 1)) with
   | error e1 =>
    have : partR l 1 (Rs.next ⟨k3, 0, s.next.a⟩).k (tightW l 1 1 (Rs.next ⟨k3, 0, s.next.a⟩).k) = .error e1 := q5
    rw [this]
    exact ⟨rd_err hl hk5 q5, rfl, rfl⟩
   | ok p5 =>
    obtain ⟨x5, k5⟩ := p5
    have : partR l 1 (Rs.next ⟨k3, 0, s.next.a⟩).k (tightW l 1 1 (Rs.next ⟨k3, 0, s.next.a⟩).k) = .ok (x5, k5) := q5
    rw [this]
    simp only [andR]
    exact (sign_tel (s := ⟨k5, 0, s.next.a⟩) rfl (by decide)).bind (fun h => .ok h _) (.refl _)
theorem line_tel {s : Rs} (hk : s.k < l.length) (he : s.e = 0) (f : Fl) : Tel l s (lineR l f s.k) (lineS l s f).1 (lineS l s f).2 := by
 have w := fun t (ht : t ≠ []) => is_word (l := l) he t ht
 unfold lineS lineR itemR
 rw [w _ (by decide), w _ (by decide), w _ (by decide), w _ (by decide), w _ (by decide)]
 cases n0 : isW (tk l s.k) [112, 97, 105, 114] with
 | true =>
  simp only [if_true]
  unfold pairS
  refine Tel.bind (s1 := (((s.most l f.pairs.length 40).next.name l).name l)) (x1 := { f with pairs := f.pairs ++ [⟨(s.most l f.pairs.length 40).next.nameT l, ((s.most l f.pairs.length 40).next.name l).nameT l, [], []⟩] }) (full_tel he (fun e => ?_) ((next_stay _).trans ((name_stay l _).trans (name_stay l _)))) (fun h => (sign_tel h (by decide)).bind (fun h => .ok h _) (.refl _)) (semi_stay l _)
  rw [e]
  exact Tel.next ((name_tel (l := l) (s := s.next) he).bind (fun h1 => (name_tel h1).bind (fun h2 => .ok h2 _) (.refl _)) (name_stay l _))
 | false =>
 simp only [Bool.false_eq_true, if_false]
 cases n1 : isW (tk l s.k) [115, 97, 109, 101] with
 | true =>
  simp only [if_true]
  unfold sameS
  refine Tel.bind (s1 := (((s.most l f.sames.length 40).next.half l).half l)) (x1 := { f with sames := f.sames ++ [⟨(s.most l f.sames.length 40).next.halfP l, ((s.most l f.sames.length 40).next.half l).halfP l, (s.most l f.sames.length 40).next.halfV l, ((s.most l f.sames.length 40).next.half l).halfV l⟩] }) (full_tel he (fun e => ?_) ((next_stay _).trans ((half_stay l _).trans (half_stay l _)))) (fun h => (sign_tel h (by decide)).bind (fun h => .ok h _) (.refl _)) (semi_stay l _)
  rw [e]
  exact Tel.next ((same_tel (l := l) (s := s.next) he).bind (fun h2 => .ok h2 _) (.refl _))
 | false =>
 simp only [Bool.false_eq_true, if_false]
 cases n2 : isW (tk l s.k) [107, 101, 101, 112] with
 | true =>
  simp only [if_true]
  unfold keepS
  refine Tel.bind (s1 := ((s.most l f.keeps.length 40).next.triple l)) (x1 := { f with keeps := f.keeps ++ [⟨(s.most l f.keeps.length 40).next.sideN l, ((s.most l f.keeps.length 40).next.side l).nameT l, (((s.most l f.keeps.length 40).next.side l).name l).nameT l⟩] }) (full_tel he (fun e => ?_) ((next_stay _).trans (triple_stay l _))) (fun h => (sign_tel h (by decide)).bind (fun h => .ok h _) (.refl _)) (semi_stay l _)
  rw [e]
  exact Tel.next ((keep_tel (l := l) (s := s.next) he).bind (fun h2 => .ok h2 _) (.refl _))
 | false =>
 simp only [Bool.false_eq_true, if_false]
 cases n4 : isW (tk l s.k) [98, 114, 101, 97, 107] with
 | true =>
  have n3 : isW (tk l s.k) [119, 97, 116, 99, 104] = false := by
   unfold isW; rw [(isW_kind n4).2]; simp
  simp only [n3, Bool.false_eq_true, if_true, if_false]
  exact break_tel hl hn hk he f n4
 | false =>
 simp only [Bool.false_eq_true, if_false]
 cases n3 : isW (tk l s.k) [119, 97, 116, 99, 104] with
 | true =>
  simp only [if_true]
  unfold watchS
  refine Tel.bind (s1 := ((s.most l f.watches.length 40).next.triple l)) (x1 := { f with watches := f.watches ++ [⟨(s.most l f.watches.length 40).next.sideN l, ((s.most l f.watches.length 40).next.side l).nameT l, (((s.most l f.watches.length 40).next.side l).name l).nameT l⟩] }) (full_tel he (fun e => ?_) ((next_stay _).trans (triple_stay l _))) (fun h => (sign_tel h (by decide)).bind (fun h => .ok h _) (.refl _)) (semi_stay l _)
  rw [e]
  exact Tel.next ((keep_tel (l := l) (s := s.next) he).bind (fun h2 => .ok h2 _) (.refl _))
 | false =>
 simp only [Bool.false_eq_true, if_false]
 unfold wrongR andR
 have e : s.fail l 30 = ⟨s.k, 30, (tk l s.k).at_⟩ := by unfold Rs.fail; rw [if_pos he]
 have b := semi_stay l (s.fail l 30) (by rw [e]; show (30 : Int) ≠ 0; decide)
 rw [e] at b ⊢
 exact ⟨(by decide : (30 : Int) ≠ 0), b.1, b.2⟩
end
end Go.Proofs.YtmhnmelaodhemaaGreatDoor
namespace Go.Proofs.YtmhnmelaodhemaaGreatDoor
open Go Go.Proofs.Ab Go.Proofs.Px
def NoSemi (l : List Tk) (k j : Nat) : Prop := ∀ i, k <= i -> i < j -> isS (tk l i) [59] = false
theorem NoSemi.one {l : List Tk} {k : Nat} (h : isS (tk l k) [59] = false) : NoSemi l k (k + 1) := fun i h1 h2 => by
 have : i = k := by omega
 rw [this]; exact h
theorem NoSemi.app {l : List Tk} {k i j : Nat} (h : NoSemi l k i) (g : NoSemi l i j) : NoSemi l k j := fun x h1 h2 => by
 rcases Nat.lt_or_ge x i with c | c
 ·exact h x h1 c
 ·exact g x c h2
theorem NoSemi.nil (l : List Tk) (k : Nat) : NoSemi l k k := fun i h1 h2 => by omega
theorem text_semi {t : Tk} (h : t.text ≠ [59]) : isS t [59] = false := by unfold isS; simp [h]
theorem kind_semi {t : Tk} (h : t.kind ≠ 4) : isS t [59] = false := by unfold isS; simp [h]
theorem isT_semi {t : Tk} {s : List UInt8} (h : isT t s = true) (hs : s ≠ [59]) : isS t [59] = false := by
 unfold isT at h
 simp only [Bool.and_eq_true, decide_eq_true_eq] at h
 exact text_semi (by rw [h.2]; exact hs)
theorem isS_semi {t : Tk} {s : List UInt8} (h : isS t s = true) (hs : s ≠ [59]) : isS t [59] = false := text_semi (by rw [(isS_kind h).2]; exact hs)
theorem isW_semi {t : Tk} {s : List UInt8} (h : isW t s = true) : isS t [59] = false := kind_semi (by rw [(isW_kind h).1]; decide)
theorem sign_semi {t : Tk} (h : signT t ≠ 0) : isS t [59] = false := text_semi fun c => h (by unfold signT; rw [c]; split <;> rfl)
theorem exp_semi {l : List Tk} (hl : Ended l) : ∀ m k : Nat, l.length - k <= m -> k < l.length ->
  (∀ d x j, oneW l d k = .ok (x, j) -> NoSemi l k j) ∧ (∀ n d x j, tightW l n d k = .ok (x, j) -> NoSemi l k j) ∧ (∀ n d p y x j, loopW l n d p y k = .ok (x, j) -> NoSemi l k j) := by
 intro m
 induction m with
 | zero => intro k h1 h2; omega
 | succ m ih =>
  intro k hm hk
  have one : ∀ d x j, oneW l d k = .ok (x, j) -> NoSemi l k j := by
   intro d x j h
   rw [oneW, dif_pos hk] at h
   split at h
   ·rename_i c
    have hk1 : k + 1 < l.length := by rcases c with c | c <;> exact hl.isT hk c
    have h0 : NoSemi l k (k + 1) := .one (by rcases c with c | c <;> exact isT_semi c (by decide))
    have h := partR_ok h
    split at h
    ·cases h
    ·rename_i y i hy
     have := (ih (k + 1) (by omega) hk1).1 _ _ _ hy
     cases h; exact h0.app this
   split at h
   ·rename_i c
    have hk1 := hl.isT hk c
    have h0 : NoSemi l k (k + 1) := .one (isT_semi c (by decide))
    obtain ⟨y, i, h1, h2, h3⟩ := wantR_ok h
    have := (ih (k + 1) (by omega) hk1).2.1 _ _ _ _ (partR_ok h1)
    cases h3; exact (h0.app this).app (.one (isT_semi h2 (by decide)))
   split at h
   ·rename_i c; cases h; exact .one (isT_semi c (by decide))
   split at h
   ·rename_i c; cases h; exact .one (isT_semi c (by decide))
   split at h
   ·rename_i c; cases h; exact .one (kind_semi (by omega))
   split at h
   ·cases h
   rename_i c1
   have hk1 : k + 1 < l.length := hl.next hk (by omega)
   have h0 : NoSemi l k (k + 1) := .one (kind_semi (by omega))
   split at h
   ·rename_i c
    have hk2 := hl.isT hk1 c
    obtain ⟨y, i, h1, h2, h3⟩ := wantR_ok h
    have := (ih (k + 2) (by omega) hk2).2.1 _ _ _ _ (partR_ok h1)
    cases h3; exact ((h0.app (.one (isT_semi c (by decide)))).app this).app (.one (isT_semi h2 (by decide)))
   ·cases h; exact h0
  have loop : ∀ n d p y x j, loopW l n d p y k = .ok (x, j) -> NoSemi l k j := by
   intro n d p y x j h
   rw [loopW, dif_pos hk] at h
   split at h
   ·cases h; exact NoSemi.nil l k
   ·rename_i c
    have c0 : signT (tk l k) ≠ 0 := fun h0 => c (.inl h0)
    have hk1 : k + 1 < l.length := hl.next hk (by
     intro h0; apply c; left; unfold signT; rw [if_neg (by omega)])
    split at h
    ·cases h
    ·rename_i z i hz
     have h1 := tight_goes hl hk1 hz
     rw [dif_pos (by omega)] at h
     exact ((NoSemi.one (sign_semi c0)).app ((ih (k + 1) (by omega) hk1).2.1 _ _ _ _ hz)).app ((ih i (by omega) h1.2).2.2 _ _ _ _ _ _ h)
  refine ⟨one, fun n d x j h => ?_, loop⟩
  rw [tightW] at h
  split at h
  ·cases h
  ·rename_i y i hy
   have h1 := one_goes hl hk hy
   rw [dif_pos ⟨h1.1, hk⟩] at h
   exact (one _ _ _ hy).app ((ih i (by omega) h1.2).2.2 _ _ _ _ _ _ h)
def five (t : Tk) : Bool := isW t [112, 97, 105, 114] || isW t [115, 97, 109, 101] || isW t [107, 101, 101, 112] || isW t [98, 114, 101, 97, 107] || isW t [119, 97, 116, 99, 104]
section
variable {l : List Tk} (hl : Ended l) (hn : l.length <= 100000)
include hl hn
theorem nameR_semi {k : Nat} (hk : k < l.length) {x : List UInt8} {j : Nat} (h : nameR l k = .ok (x, j)) : NoSemi l k j := by
 obtain ⟨_, h1, _, rfl⟩ := nameR_step hl hk h
 exact .one (kind_semi (by omega))
theorem signR_semi {k : Nat} (hk : k < l.length) {s : List UInt8} (hs : s ≠ [59]) {x : Unit} {j : Nat} (h : signR l s k = .ok (x, j)) : NoSemi l k j := by
 obtain ⟨_, h1, rfl⟩ := signR_step hl hk h
 exact .one (isS_semi h1 hs)
theorem sideR_semi {k : Nat} (hk : k < l.length) {x : Int} {j : Nat} (h : sideR l k = .ok (x, j)) : NoSemi l k j := by
 obtain ⟨_, h1, _, rfl⟩ := sideR_step hl hk h
 exact .one (kind_semi (by omega))
theorem intR_semi {k : Nat} (hk : k < l.length) {x : Int} {j : Nat} (h : intR l k = .ok (x, j)) : NoSemi l k j := by
 obtain ⟨_, h1, _, rfl⟩ := intR_step hl hk h
 exact .one (kind_semi (by omega))
theorem halfR_semi {k : Nat} (hk : k < l.length) {x : List UInt8 × List UInt8} {j : Nat} (h : halfR l k = .ok (x, j)) : NoSemi l k j ∧ j < l.length := by
 unfold halfR at h
 obtain ⟨_, _, h1, h⟩ := andR_ok h
 have s1 := (nameR_step hl hk h1).1
 obtain ⟨_, _, h2, h⟩ := andR_ok h
 have s2 := (signR_step hl s1.end_ h2).1
 obtain ⟨_, _, h3, h⟩ := andR_ok h
 have s3 := (nameR_step hl s2.end_ h3).1
 obtain ⟨_, _, h4, h⟩ := andR_ok h
 have s4 := (signR_step hl s3.end_ h4).1
 cases h
 exact ⟨(((nameR_semi hl hn hk h1).app (signR_semi hl hn s1.end_ (by decide) h2)).app (nameR_semi hl hn s2.end_ h3)).app (signR_semi hl hn s3.end_ (by decide) h4), s4.end_⟩
theorem sameR_semi {k : Nat} (hk : k < l.length) {x : Pai} {j : Nat} (h : sameR l k = .ok (x, j)) : NoSemi l k j := by
 unfold sameR at h
 obtain ⟨_, _, h1, h⟩ := andR_ok h
 have s1 := halfR_semi hl hn hk h1
 obtain ⟨_, _, h2, h⟩ := andR_ok h
 have s2 := halfR_semi hl hn s1.2 h2
 cases h
 exact s1.1.app s2.1
theorem whenR_semi {k : Nat} (hk : k < l.length) {x : List Ex} {j : Nat} (h : whenR l k = .ok (x, j)) : NoSemi l k j := by
 unfold whenR at h
 split at h
 ·rename_i c
  have hk1 := hl.next hk (by rw [(isW_kind c).1]; decide)
  obtain ⟨y, i, h1, h2⟩ := andR_ok h
  have := (exp_semi hl _ (k + 1) (Nat.le_refl _) hk1).2.1 _ _ _ _ (partR_ok h1)
  cases h2; exact (NoSemi.one (isW_semi c)).app this
 ·cases h; exact NoSemi.nil l k
theorem stopR_semi {k : Nat} (hk : k < l.length) {x : Bk} {j : Nat} (h : stopR l k = .ok (x, j)) : NoSemi l k j := by
 rw [stopR_mk] at h
 obtain ⟨_, _, h1, h⟩ := andR_ok h
 have s1 := (sideR_step hl hk h1).1
 obtain ⟨_, _, h2, h⟩ := andR_ok h
 have s2 := (nameR_step hl s1.end_ h2).1
 obtain ⟨_, _, h3, h⟩ := andR_ok h
 have s3 := (intR_step hl s2.end_ h3).1
 obtain ⟨_, _, h4, h⟩ := andR_ok h
 cases h
 exact (((sideR_semi hl hn hk h1).app (nameR_semi hl hn s1.end_ h2)).app (intR_semi hl hn s2.end_ h3)).app (whenR_semi hl hn s3.end_ h4)
theorem keepR_semi {k : Nat} (hk : k < l.length) {x : Int × List UInt8 × List UInt8} {j : Nat} (h : keepR l k = .ok (x, j)) : NoSemi l k j := by
 unfold keepR at h
 obtain ⟨_, _, h1, h⟩ := andR_ok h
 have s1 := (sideR_step hl hk h1).1
 obtain ⟨_, _, h2, h⟩ := andR_ok h
 have s2 := (nameR_step hl s1.end_ h2).1
 obtain ⟨_, _, h3, h⟩ := andR_ok h
 cases h
 exact ((sideR_semi hl hn hk h1).app (nameR_semi hl hn s1.end_ h2)).app (nameR_semi hl hn s2.end_ h3)
theorem lineR_semi {k : Nat} (hk : k < l.length) {f g : Fl} {j : Nat} (h : lineR l f k = .ok (g, j)) : ∃ i, j = i + 1 ∧ k < i ∧ NoSemi l k i ∧ isS (tk l i) [59] = true ∧ five (tk l k) = true := by
 unfold lineR at h
 obtain ⟨f1, k1, h1, h⟩ := andR_ok h
 obtain ⟨_, k2, h2, h⟩ := andR_ok h
 have full : ∀ {α : Type} {n most : Nat} {r : Rf α} {x : α × Nat}, fullR l n most k r = .ok x -> r = .ok x := fun h => by
  unfold fullR at h
  split at h
  ·cases h
  ·exact h
 have key : k < k1 ∧ k1 < l.length ∧ NoSemi l k k1 ∧ five (tk l k) = true := by
  unfold itemR at h1
  unfold five
  split at h1
  ·rename_i c
   have s0 : k + 1 < l.length := hl.next hk (by rw [(isW_kind c).1]; decide)
   obtain ⟨_, _, g1, h1⟩ := andR_ok (full h1)
   have s1 := (nameR_step hl s0 g1).1
   obtain ⟨_, _, g2, h1⟩ := andR_ok h1
   have s2 := (nameR_step hl s1.end_ g2).1
   have := s1.lt
   have := s2.lt
   cases h1
   exact ⟨by omega, s2.end_, ((NoSemi.one (isW_semi c)).app (nameR_semi hl hn s0 g1)).app (nameR_semi hl hn s1.end_ g2), by rw [c]; simp⟩
  split at h1
  ·rename_i c
   have s0 : k + 1 < l.length := hl.next hk (by rw [(isW_kind c).1]; decide)
   obtain ⟨_, _, g1, h1⟩ := andR_ok (full h1)
   have s1 := sameR_step hl hn s0 g1
   have := s1.lt
   cases h1
   exact ⟨by omega, s1.end_, (NoSemi.one (isW_semi c)).app (sameR_semi hl hn s0 g1), by rw [c]; simp⟩
  have keep : ∀ {x : Int × List UInt8 × List UInt8} {j : Nat}, k + 1 < l.length -> keepR l (k + 1) = .ok (x, j) -> k < j ∧ j < l.length := fun s0 h => by
   unfold keepR at h
   obtain ⟨_, _, g1, h⟩ := andR_ok h
   have s1 := (sideR_step hl s0 g1).1
   obtain ⟨_, _, g1, h⟩ := andR_ok h
   have s2 := (nameR_step hl s1.end_ g1).1
   obtain ⟨_, _, g1, h⟩ := andR_ok h
   have s3 := (nameR_step hl s2.end_ g1).1
   have := s1.lt
   have := s2.lt
   have := s3.lt
   have := s3.end_
   cases h; omega
  split at h1
  ·rename_i c
   have s0 : k + 1 < l.length := hl.next hk (by rw [(isW_kind c).1]; decide)
   obtain ⟨_, _, g1, h1⟩ := andR_ok (full h1)
   have := keep s0 g1
   cases h1
   exact ⟨by omega, by omega, (NoSemi.one (isW_semi c)).app (keepR_semi hl hn s0 g1), by rw [c]; simp⟩
  split at h1
  ·rename_i c
   have s0 : k + 1 < l.length := hl.next hk (by rw [(isW_kind c).1]; decide)
   obtain ⟨_, _, g1, h1⟩ := andR_ok (full h1)
   have s1 := stopR_step hl hn s0 g1
   have := s1.lt
   cases h1
   exact ⟨by omega, s1.end_, (NoSemi.one (isW_semi c)).app (stopR_semi hl hn s0 g1), by rw [c]; simp⟩
  split at h1
  ·rename_i c
   have s0 : k + 1 < l.length := hl.next hk (by rw [(isW_kind c).1]; decide)
   obtain ⟨_, _, g1, h1⟩ := andR_ok (full h1)
   have := keep s0 g1
   cases h1
   exact ⟨by omega, by omega, (NoSemi.one (isW_semi c)).app (keepR_semi hl hn s0 g1), by rw [c]; simp⟩
  ·cases h1
 obtain ⟨_, h3, rfl⟩ := signR_step hl key.2.1 h2
 cases h
 exact ⟨k1, rfl, key.1, key.2.2.1, h3, key.2.2.2⟩
theorem file_lines : ∀ (n k : Nat) (f g : Fl), k < l.length -> fileR l n f k = .ok g -> ∀ i, k <= i -> i < l.length -> (tk l i).kind ≠ 0 -> (i = k ∨ isS (tk l (i - 1)) [59] = true) -> five (tk l i) = true
 | 0, k, f, g, hk, h, i, h1, h2, h3, h4 => by cases h
 | n + 1, k, f, g, hk, h, i, h1, h2, h3, h4 => by
  rw [fileR] at h
  split at h
  ·rename_i c
   have := (hl.last k hk).1 c
   have : i = k := by omega
   subst this
   exact absurd c h3
  split at h
  ·cases h
  ·rename_i g1 j hq
   obtain ⟨m, rfl, h5, h6, h7, h8⟩ := lineR_semi hl hn hk hq
   have hj := (lineR_step hl hn hk hq).end_
   by_cases c : i = k
   ·subst c; exact h8
   ·rcases h4 with h4 | h4
    ·exact absurd h4 c
    by_cases c2 : i - 1 < m
    ·have := h6 (i - 1) (by omega) c2
     rw [this] at h4; cases h4
    ·refine file_lines n (m + 1) g1 g hj h i (by omega) h2 h3 ?_
     by_cases c3 : i = m + 1
     ·exact .inl c3
     ·exact .inr h4
end
theorem wr_semi {t : Tk} (h : wrOk t = true) (h2 : t.text = [59]) : isS t [59] = true := by
 unfold wrOk at h
 rw [h2] at h
 unfold isS
 rw [h2]
 split at h
 ·exact absurd h (by
   have : isName (B [59]) = false := by decide
   rw [this]; simp)
 split at h
 ·exact absurd h (by
   have : isKeyL [59] = false := by decide
   rw [this]; simp)
 split at h
 ·rename_i c; rw [c]; rfl
 split at h
 ·simp at h
 ·cases h
end Go.Proofs.YtmhnmelaodhemaaGreatDoor
namespace Go.Proofs.YtmhnmelaodhemaaGreatDoor
open Go Go.Proofs.Ab Go.Proofs.Px
def step01 (i : Nat) (n : Int) (c : UInt8) : Int := if i < 25 ∧ 48 <= c.toNat ∧ c.toNat <= 57 then IntKind.i64.wrap (IntKind.i64.wrap (n * 10) + IntKind.i64.wrap (IntKind.u8.wrap ((c.toNat : Int) - 48))) else n
def fo : Nat -> Int -> List UInt8 -> Int
 | _, n, [] => n
 | i, n, c :: r => fo (i + 1) (step01 i n c) r
def fin01 (w : List UInt8) (n : Int) : Int × Int := if decs n = w then (n, 0) else (0, 10)
theorem step01_in (i : Nat) (n : Int) (c : UInt8) (h0 : -9223372036854775808 <= n) (h1 : n <= 9223372036854775807) : -9223372036854775808 <= step01 i n c ∧ step01 i n c <= 9223372036854775807 := by
 unfold step01
 split
 ·exact wrap_range _
 ·exact ⟨h0, h1⟩
theorem fo_in : ∀ (r : List UInt8) (i : Nat) (n : Int), -9223372036854775808 <= n -> n <= 9223372036854775807 -> -9223372036854775808 <= fo i n r ∧ fo i n r <= 9223372036854775807
 | [], i, n, h0, h1 => ⟨h0, h1⟩
 | c :: r, i, n, h0, h1 => by
  have := step01_in i n c h0 h1
  exact fo_in r (i + 1) _ this.1 this.2
theorem fo_skip : ∀ (r : List UInt8) (i : Nat) (n : Int), 25 <= i -> fo i n r = n
 | [], _, _, _ => rfl
 | c :: r, i, n, h => by
  have : step01 i n c = n := if_neg (fun q => by omega)
  rw [fo, this]; exact fo_skip r (i + 1) n (by omega)
theorem ref01_Parse_told (c : UInt8) (r : List UInt8) (hc : dg c = true) (hl : (c :: r).length < 4611686018427387904) : den Sp ref01_Parse.id [.str (B (c :: r))] [] none = pairV (fin01 (c :: r) (fo 0 0 (c :: r))) := by
 have h45 : ((c.toNat : Int) == (45 : Int)) = false := by
  unfold dg digit at hc
  simp only [Bool.and_eq_true, decide_eq_true_eq] at hc
  exact beq_eq_false_iff_ne.2 (by omega)
 rw [ref01_Parse.eq]
 generalize hw : c :: r = w at *
 have hg : w.getD 0 0 = c := by rw [<- hw]; rfl
 have hpos : 0 < w.length := by rw [<- hw]; simp
 have p1 : (((w.length : Nat) : Int) > 0) := by omega
 have p2 : (0 : Int) <= 0 ∧ (0 : Int) < ((w.length : Nat) : Int) := ⟨Int.le_refl _, p1⟩
 have key : ∀ k : Nat, k <= w.length -> ∀ n : Int, -9223372036854775808 <= n -> n <= 9223372036854775807 -> ref01_Parse.L1_1_0_1_0 (B w) n (k : Int) = pairV (fin01 w (fo k n (w.drop k))) := by
  refine down (fun n h0 h1 => ?_) fun k hk ih n h0 h1 => ?_
  ·rw [ref01_Parse.L1_1_0_1_0_eq, B_size, decide_eq_false (Int.lt_irrefl _), cond_false, decide_eq_true p1, cond_true, if_pos p2, B_byte _ 0, hg, h45, cond_false]
   rw [ref01_Text_is n h0 h1]
   simp only [Option.bind_some, onRet_ret, asStr_str]
   rw [List.drop_length]
   unfold fo fin01
   by_cases e : decs n = w
   ·rw [if_pos e, e]; simp [pairV]
   ·rw [if_neg e]
    have : decide (B (decs n) = B w) = false := by rw [B_dec, decide_eq_false e]
    simp [B_inj, e, pairV]
  ·have hlt : ((k : Int) < (w.length : Int)) := by omega
   have hcond : (0 : Int) <= (k : Int) ∧ (k : Int) < (w.length : Int) := ⟨by omega, hlt⟩
   obtain ⟨b, hb⟩ : ∃ b, w.getD k 0 = b := ⟨_, rfl⟩
   have hd := drop_cons hk
   rw [hb] at hd
   by_cases h25 : k < 25
   ·have hs := step01_in k n b h0 h1
    have ih' := ih _ hs.1 hs.2
    rw [hd, fo]
    refine Eq.trans ?_ ih'
    unfold step01
    rw [ref01_Parse.L1_1_0_1_0_eq, B_size, decide_eq_true hlt, cond_true, if_pos hcond, if_pos hcond, if_pos hcond, wrap_nat (by omega), Int.toNat_natCast, B_byte, hb]
    rw [decide_eq_true (show (k : Int) < 25 by omega), cond_true]
    by_cases h48 : 48 <= b.toNat
    ·rw [decide_eq_true (show (b.toNat : Int) >= 48 by omega), cond_true]
     by_cases h57 : b.toNat <= 57
     ·rw [decide_eq_true (show (b.toNat : Int) <= 57 by omega), cond_true, if_pos ⟨h25, h48, h57⟩]
     ·rw [decide_eq_false (show ¬ (b.toNat : Int) <= 57 by omega), cond_false, if_neg (show ¬ (k < 25 ∧ 48 <= b.toNat ∧ b.toNat <= 57) from fun h => h57 h.2.2)]
    ·rw [decide_eq_false (show ¬ (b.toNat : Int) >= 48 by omega), cond_false, if_neg (show ¬ (k < 25 ∧ 48 <= b.toNat ∧ b.toNat <= 57) from fun h => h48 h.2.1)]
   ·rw [fo_skip _ k n (by omega), ref01_Parse.L1_1_0_1_0_eq, B_size, decide_eq_true hlt, cond_true, decide_eq_false (show ¬ (k : Int) < 25 by omega), cond_false, decide_eq_true p1, cond_true, if_pos p2, B_byte _ 0, hg, h45, cond_false]
    rw [ref01_Text_is n h0 h1]
    simp only [Option.bind_some, onRet_ret, asStr_str]
    unfold fin01
    by_cases e : decs n = w
    ·rw [if_pos e, e]; simp [pairV]
    ·rw [if_neg e]
     simp [B_inj, e, pairV]
 have := key 0 (Nat.zero_le _) 0 (by decide) (by decide)
 rw [List.drop_zero] at this
 exact this
theorem fo_worth : ∀ (l : List UInt8) (i u : Nat), (∀ c ∈ l, 48 <= c.toNat ∧ c.toNat <= 57) -> i + l.length <= 25 -> worth u l < 9223372036854775808 -> fo i (u : Int) l = ((worth u l : Nat) : Int)
 | [], i, u, _, _, _ => by rw [worth_nil]; rfl
 | c :: l, i, u, hd, hi, h => by
  have hc := hd c List.mem_cons_self
  rw [List.length_cons] at hi
  rw [worth_cons] at *
  have h2 := worth_mono l (u * 10 + (c.toNat - 48))
  have e : step01 i (u : Int) c = ((u * 10 + (c.toNat - 48) : Nat) : Int) := by
   unfold step01
   rw [if_pos ⟨by omega, hc⟩]
   have w1 : IntKind.u8.wrap ((c.toNat : Int) - 48) = (c.toNat : Int) - 48 := by rw [IntKind.wrap_u8]; omega
   rw [w1, wrap_in (n := (c.toNat : Int) - 48) (by omega) (by omega), wrap_in (n := (u : Int) * 10) (by omega) (by omega), wrap_in (by omega) (by omega)]
   omega
  rw [fo, e]
  exact fo_worth l (i + 1) _ (fun d hd' => hd d (List.mem_cons_of_mem _ hd')) (by omega) h
theorem parseGo_err : ∀ (l : List UInt8) (u : Nat), (parseGo u l).2 ≠ 0 -> parseGo u l = (0, 10)
 | [], u, h => by
  unfold parseGo at *
  split at h
  ·rename_i c; rw [if_pos c]
  ·exact absurd rfl h
 | c :: l, u, h => by
  unfold parseGo at *
  split at h
  ·rename_i c1; rw [if_pos c1]; exact parseGo_err l _ h
  ·rename_i c1; rw [if_neg c1]
theorem fin01_parse (c : UInt8) (r : List UInt8) (hc : dg c = true) : fin01 (c :: r) (fo 0 0 (c :: r)) = parse (c :: r) := by
 have hne : c :: r ≠ [] := by simp
 generalize hw : c :: r = w at *
 have hg : w.getD 0 0 = c := by rw [<- hw]; rfl
 by_cases h : (parse w).2 = 0
 ·obtain ⟨m, h1, h2, h3⟩ := parse_ok hne h
  have hp : m < 10 ^ 20 := Nat.lt_trans h2 (by decide)
  have hwd := dec_worth m hp
  have hl := dec_len20 m
  have hf := fo_worth (dec m) 0 0 (dec_digits m) (by omega) (by rw [hwd]; exact h2)
  rw [hwd, h3] at hf
  have hd : decs (m : Int) = w := by unfold decs; rw [if_neg (by omega), Int.natAbs_natCast, h3]
  unfold fin01
  rw [show ((0 : Nat) : Int) = 0 from rfl] at hf
  rw [hf, if_pos hd, <- h1, <- h]
 ·have he : parse w = (0, 10) := by
   unfold parse at h ⊢
   split at h
   ·rename_i c1; rw [if_pos c1]; exact parseGo_err _ _ h
   ·rename_i c1; rw [if_neg c1]
  rw [he]
  unfold fin01
  rw [if_neg]
  intro hd
  have hb := fo_in w 0 0 (by decide) (by decide)
  generalize fo 0 0 w = n at *
  by_cases hn : n < 0
  ·unfold decs at hd
   rw [if_pos hn] at hd
   rw [<- hd] at hg
   have hg : (45 : UInt8) = c := hg
   rw [<- hg] at hc
   exact absurd hc (by decide)
  ·unfold decs at hd
   rw [if_neg hn] at hd
   have := parse_dec n.natAbs (by omega)
   rw [hd] at this
   rw [this] at h
   exact h rfl
theorem lt_inn {c : UInt8} (h : lt c = true) : inn c = true := by
 have : letter (c.toNat : Int) = true := h
 unfold inn inner
 rw [this]; rfl
theorem signIn_split (l : List UInt8) (k : Nat) : ∀ (s t : List (List UInt8)), (∀ x ∈ s, x.length = k) -> signIn l (s ++ t) = if s.contains (l.take k) then l.take k else signIn l t
 | [], t, _ => rfl
 | x :: s, t, h => by
  have hx := h x List.mem_cons_self
  have ih := signIn_split l k s t fun y hy => h y (List.mem_cons_of_mem _ hy)
  rw [List.cons_append, signIn, hx, ih, List.contains_cons]
  by_cases e : l.take k = x
  ·rw [if_pos e, e]; simp
  ·rw [if_neg e]
   have : (l.take k == x) = false := beq_eq_false_iff_ne.2 e
   rw [this, Bool.false_or]
def signs2 : List (List UInt8) := [[61, 61], [33, 61], [60, 61], [38, 38], [124, 124]]
def signs1 : List (List UInt8) := [[40], [41], [123], [125], [91], [93], [44], [59], [61], [60], [33], [43], [45], [42], [47], [37]]
theorem contains_len {s : List (List UInt8)} {k : Nat} (h : ∀ x ∈ s, x.length = k) {w : List UInt8} (hw : w.length ≠ k) : s.contains w = false := by
 rw [<- Bool.not_eq_true, List.contains_iff_mem]
 exact fun hm => hw (h w hm)
theorem sign_cases (l : List UInt8) (hl : 0 < l.length) : sign l = if 2 <= l.length ∧ isSign (l.take 2) = true then l.take 2 else if 1 <= l.length ∧ isSign (l.take 1) = true then l.take 1 else [] := by
 have h2 : ∀ x ∈ signs2, x.length = 2 := by decide
 have h1 : ∀ x ∈ signs1, x.length = 1 := by decide
 have e : signs = signs2 ++ (signs1 ++ []) := rfl
 have i2 : ∀ w, isSign w = (signs2.contains w || signs1.contains w) := fun w => by
  unfold isSign
  rw [e, List.append_nil]
  simp only [List.contains_eq_any_beq, List.any_append]
 unfold sign
 rw [e, signIn_split l 2 _ _ h2, signIn_split l 1 _ _ h1]
 have t1 : (l.take 1).length = 1 := by rw [List.length_take]; omega
 have c1 : isSign (l.take 1) = signs1.contains (l.take 1) := by rw [i2, contains_len h2 (by omega), Bool.false_or]
 by_cases hl2 : 2 <= l.length
 ·have t2 : (l.take 2).length = 2 := by rw [List.length_take]; omega
  have c2 : isSign (l.take 2) = signs2.contains (l.take 2) := by rw [i2, contains_len h1 (w := l.take 2) (by omega), Bool.or_false]
  rw [c1, c2]
  by_cases q : signs2.contains (l.take 2) = true
  ·rw [if_pos q, if_pos ⟨hl2, q⟩]
  ·rw [if_neg q, if_neg (show ¬ (2 <= l.length ∧ signs2.contains (l.take 2) = true) from fun h => q h.2)]
   by_cases q1 : signs1.contains (l.take 1) = true
   ·rw [if_pos q1, if_pos ⟨by omega, q1⟩]
   ·rw [if_neg q1, if_neg (show ¬ (1 <= l.length ∧ signs1.contains (l.take 1) = true) from fun h => q1 h.2)]; rfl
 ·have t2 : (l.take 2).length ≠ 2 := by rw [List.length_take]; omega
  rw [contains_len h2 t2, if_neg (fun h => Bool.noConfusion h), if_neg (show ¬ (2 <= l.length ∧ isSign (l.take 2) = true) from fun h => hl2 h.1), c1]
  by_cases q1 : signs1.contains (l.take 1) = true
  ·rw [if_pos q1, if_pos ⟨by omega, q1⟩]
  ·rw [if_neg q1, if_neg (show ¬ (1 <= l.length ∧ signs1.contains (l.take 1) = true) from fun h => q1 h.2)]; rfl
def firstN (l : List UInt8) : Tk × Nat := if (next l 0).2.2 then ((next l 0).1, (next l 0).2.1) else (tk0, 0)
theorem ref02_First_is (c : UInt8) (q : List UInt8) (hl : (c :: q).length < 4611686018427387904) : den Sp ref02_First.id [.str (B (c :: q))] [] none = firstV (firstN (c :: q)).1 (firstN (c :: q)).2 := by
 have hx := next_cons c q 0
 unfold firstN
 by_cases hw : word (c :: q) = []
 ·have hin : inn c = false := by
   unfold word at hw
   rw [List.takeWhile_cons] at hw
   cases hi : inn c with
   | false => rfl
   | true => rw [hi] at hw; simp at hw
  have hlt : lt c = false := by
   cases h : lt c with
   | false => rfl
   | true => have := lt_inn h; rw [hin] at this; cases this
  have hdg : dg c = false := by
   cases h : dg c with
   | false => rfl
   | true => have := dg_inn h; rw [hin] at this; cases this
  rw [hlt, hdg, if_neg (fun h => Bool.noConfusion h), if_neg (fun h => Bool.noConfusion h)] at hx
  rw [hx, first_sign _ hl hw, sign_cases (c :: q) (by simp)]
  have n2 : (c :: q).take 2 ≠ [] := by simp
  have n1 : (c :: q).take 1 ≠ [] := by simp
  by_cases h2 : 2 <= (c :: q).length ∧ isSign ((c :: q).take 2) = true
  ·rw [if_pos h2]
   simp only [if_pos h2]
   rw [if_pos (by simp [n2])]
   have : ((c :: q).take 2).length = 2 := by rw [List.length_take]; omega
   rw [this]
  ·rw [if_neg h2]
   simp only [if_neg h2]
   by_cases h1 : 1 <= (c :: q).length ∧ isSign ((c :: q).take 1) = true
   ·rw [if_pos h1]
    simp only [if_pos h1]
    rw [if_pos (by simp [n1])]
    have : ((c :: q).take 1).length = 1 := by rw [List.length_take]; omega
    rw [this]
   ·rw [if_neg h1]
    simp only [if_neg h1]
    simp
 ·have hwl := word_le (c :: q)
  have hpos : 0 < (word (c :: q)).length := List.length_pos_iff.2 hw
  have htk := word_take_self (c :: q)
  have e1 : (0 : Int) <= (((word (c :: q)).length : Nat) : Int) := by omega
  have e2 : 0 <= (word (c :: q)).length ∧ (word (c :: q)).length <= (c :: q).length := ⟨Nat.zero_le _, hwl⟩
  have e3 : ((((word (c :: q)).length : Nat) : Int) > 0) := by omega
  have e4 : (0 : Int) <= 0 ∧ (0 : Int) < (((c :: q).length : Nat) : Int) := ⟨Int.le_refl _, by omega⟩
  have hin : inn c = true := by
   unfold word at hw
   rw [List.takeWhile_cons] at hw
   cases hi : inn c with
   | true => rfl
   | false => rw [hi] at hw; simp at hw
  have hwc : word (c :: q) = c :: word q := by unfold word; rw [List.takeWhile_cons, hin, if_pos rfl]
  have hloop := first_word (c :: q) (word (c :: q)).length hpos (by omega) 2 (by omega)
  rw [show ((2 : Nat) : Int) = 2 from rfl] at hloop
  have hdg : digit (((c :: q).getD 0 0).toNat : Int) = dg c := rfl
  have hkeys := ref02_in_is (B (word (c :: q))) keys (by decide)
  rw [keysL_is] at hkeys
  have hname := ref02_IsName_is (B (word (c :: q))) (by rw [B_size]; omega)
  rw [ref02_First.eq, ref02_run_is (c :: q) hl]
  simp only [Option.bind_some, onRet_ret, asInt_int]
  rw [if_pos e1, Int.toNat_natCast, B_size, if_pos e2, decide_eq_true e3, cond_true, if_pos e4, ref02_digit_is, B_byte, B_extract, List.drop_zero, Nat.sub_zero, htk, cond_true, cond_true, ref02_Keys_is, hdg]
  simp only [Option.bind_some, onRet_ret, asBool_bool]
  cases hd : dg c with
  | true =>
   have hlt : lt c = false := by
    cases h : lt c with
    | false => rfl
    | true => have := lt_dg h; rw [hd] at this; cases this
   rw [hlt, hd, if_neg (fun h => Bool.noConfusion h), if_pos rfl] at hx
   have hp := ref01_Parse_told c (word q) hd (by rw [<- hwc]; omega)
   rw [fin01_parse c (word q) hd, <- hwc] at hp
   rw [hx, cond_true, hp]
   unfold pairV
   by_cases h : (parse (word (c :: q))).2 = 0
   ·simp [h, firstV, Tk.v]
   ·simp [h, firstV, Tk.v, tk0]
  | false =>
   rw [hd] at hx
   rw [cond_false]
   simp only [asSl_sl, hkeys, Option.bind_some, onRet_ret, asBool_bool, hname]
   cases hlt : lt c with
   | true =>
    rw [hlt, if_pos rfl] at hx
    rw [hx]
    cases hk : isKeyL (word (c :: q)) with
    | true =>
     have h40 := (key_facts hk).2.1
     simp [h40, firstV, Tk.v]
    | false =>
     by_cases h40 : (word (c :: q)).length <= 40
     ·have hn := name_of hw h40 (by rw [hwc]; exact hlt) hk (word_word _)
      simp [hn, h40, firstV, Tk.v]
     ·have hn : isName (B (word (c :: q))) = false := by
       rw [<- Bool.not_eq_true]; intro h; exact h40 (name_facts h).2.1
      rw [hn]
      simp only [cond_false]
      rw [hloop]
      simp [h40]
   | false =>
    rw [hlt, if_neg (fun h => Bool.noConfusion h), if_neg (fun h => Bool.noConfusion h)] at hx
    have hk : isKeyL (word (c :: q)) = false := by
     rw [<- Bool.not_eq_true]; intro h
     have := (key_facts h).2.2.1
     rw [hwc] at this
     have : lt c = true := this
     rw [hlt] at this; cases this
    have hn : isName (B (word (c :: q))) = false := by
     rw [<- Bool.not_eq_true]; intro h
     have := (name_facts h).2.2.1
     rw [hwc] at this
     have : lt c = true := this
     rw [hlt] at this; cases this
    have h95 : c = 95 := by
     unfold inn inner at hin
     have a1 : letter (c.toNat : Int) = false := hlt
     have a2 : digit (c.toNat : Int) = false := hd
     rw [a1, a2] at hin
     simp at hin
     exact UInt8.toNat_inj.1 (by have : (c.toNat : Int) = 95 := hin; show c.toNat = 95; omega)
    have hs : sign (c :: q) = [] := by
     rw [h95]; exact signIn_head _ q signs (by decide)
    rw [hx, hk, hn, hs]
    simp only [cond_false]
    rw [hloop]
    simp
theorem sk_cons (b : Bool) (c : UInt8) (r : List UInt8) : sk b (c :: r) = if c = 10 then sk false r else if b then sk true r else if c = 32 then sk false r else if c = 35 then sk true r else c :: r := by rw [sk]
theorem ref02_Blank_is (l : List UInt8) (hl : l.length < 4611686018427387904) : den Sp ref02_Blank.id [.str (B l)] [] none = some ⟨.ret (.int .i64 ((l.length - (sk false l).length : Nat) : Int)), [], none⟩ := by
 have key : ∀ i : Nat, i <= l.length -> ∀ b : Bool, ref02_Blank.L1_1_0_1_0 (B l) b (i : Int) = some ⟨.ret (.int .i64 ((l.length - (sk b (l.drop i)).length : Nat) : Int)), [], none⟩ := by
  refine down (fun b => ?_) fun i hi ih b => ?_
  ·rw [ref02_Blank.L1_1_0_1_0_eq, B_size, decide_eq_false (Int.lt_irrefl _), cond_false, List.drop_length]
   have : sk b [] = [] := by cases b <;> rfl
   rw [this]; rfl
  ·have hlt : ((i : Int) < (l.length : Int)) := by omega
   have hcond : (0 : Int) <= (i : Int) ∧ (i : Int) < (l.length : Int) := ⟨by omega, hlt⟩
   obtain ⟨c, hc⟩ : ∃ c, l.getD i 0 = c := ⟨_, rfl⟩
   have hd := drop_cons hi
   rw [hc] at hd
   have h10 : ((c.toNat : Int) == (10 : Int)) = (c == 10) := byte_eq c 10 (by omega)
   have h32 : ((c.toNat : Int) != (32 : Int)) = !(c == 32) := congrArg not (byte_eq c 32 (by omega))
   have h35 : ((c.toNat : Int) == (35 : Int)) = (c == 35) := byte_eq c 35 (by omega)
   rw [ref02_Blank.L1_1_0_1_0_eq, B_size, decide_eq_true hlt, cond_true, if_pos hcond, if_pos hcond, if_pos hcond, wrap_nat (by omega), Int.toNat_natCast, B_byte, hc, h10, h35, h32, ih, ih, ih, hd, sk_cons]
   by_cases c10 : c = 10
   ·subst c10; rfl
   ·rw [beq_eq_false_iff_ne.2 c10, cond_false, if_neg c10]
    by_cases c35 : c = 35
    ·subst c35; cases b <;> rfl
    ·rw [beq_eq_false_iff_ne.2 c35, cond_false]
     cases b with
     | true => rfl
     | false =>
      rw [Bool.not_false, cond_true, if_neg (fun h => Bool.noConfusion h), if_neg c35]
      by_cases c32 : c = 32
      ·subst c32; rfl
      ·rw [beq_eq_false_iff_ne.2 c32, Bool.not_false, cond_true, if_neg c32, <- hd, List.length_drop]
       congr 4; omega
 have := key 0 (Nat.zero_le _) false
 rw [List.drop_zero] at this
 rw [ref02_Blank.eq]
 exact this
theorem next_kind (c : UInt8) (q : List UInt8) (a : Int) : (next (c :: q) a).1.kind ≠ 0 := by
 rw [next_cons]
 split
 ·show (if isKeyL (word (c :: q)) then (3 : Int) else 1) ≠ 0
  split <;> decide
 ·split
  ·show (2 : Int) ≠ 0; decide
  ·show (4 : Int) ≠ 0; decide
theorem ref02_scan_loop (l : List UInt8) (hl : l.length <= 16384) : ∀ (f i : Nat) (out : List Tk) (r : List UInt8), i <= l.length -> sk false r = l.drop i -> r.length < f -> out.length <= 4000 ->
  ref02_Scan.L1_1_1_1_0_0 (B l) (out.map Tk.v) (i : Int) = scanV (scanGo f l.length out r)
 | 0, i, out, r, _, _, hf, _ => by omega
 | f + 1, i, out, r, hi, hr, hf, ho => by
  have hrl := sk_le false r
  rw [hr, List.length_drop] at hrl
  have ha : ((l.length - (l.drop i).length : Nat) : Int) = (i : Int) := by rw [List.length_drop]; omega
  have hb : (out.map Tk.v).length = out.length := List.length_map ..
  rw [scanGo_succ, hr, ha, ref02_Scan.L1_1_1_1_0_0_eq, B_size, hb]
  by_cases hlt : i < l.length
  ·obtain ⟨c, q, hcq⟩ : ∃ c q, l.drop i = c :: q := ⟨_, _, drop_cons hlt⟩
   have hlq : (c :: q).length = l.length - i := by rw [<- hcq, List.length_drop]
   have hF := ref02_First_is c q (by omega)
   have hex : (B l).extract i l.length = B (c :: q) := by
    rw [B_extract, hcq, List.take_of_length_le (by omega)]
   have hsh := next_shift (c :: q) (i : Int) 0
   have hpos := next_pos (c :: q) i
   have hle := next_le (c :: q) i
   have hkind := next_kind c q i
   rw [decide_eq_true (show (i : Int) < (l.length : Int) by omega), cond_true, if_pos (show (0 : Int) <= (i : Int) by omega), Int.toNat_natCast, if_pos ⟨hi, Nat.le_refl _⟩, hex, hF, hcq]
   unfold firstN firstV
   rw [<- hsh.2.1]
   generalize next (c :: q) (i : Int) = x at *
   obtain ⟨t, n, ok⟩ := x
   dsimp only at *
   cases ok with
   | false =>
    rw [if_pos rfl, if_neg (fun h => Bool.noConfusion h)]
    simp [tk0, Tk.v, scanV]
   | true =>
    rw [if_neg (fun h : true = false => Bool.noConfusion h), if_pos rfl]
    have hk : t.kind ≠ 0 := hkind
    have hp := hpos rfl hk
    have hn0 : ((n : Int) == 0) = false := beq_eq_false_iff_ne.2 (by omega)
    have e2 : t.kind = (next (c :: q) 0).1.kind := hsh.1.1
    have e3 : t.text = (next (c :: q) 0).1.text := hsh.1.2.1
    have e4 : t.num = (next (c :: q) 0).1.num := hsh.1.2.2
    have hat : t.at_ = (i : Int) := hsh.2.2
    have ht4 : ([[V.int .i64 (next (c :: q) 0).1.kind, V.str (B (next (c :: q) 0).1.text), V.int .i64 (next (c :: q) 0).1.num, V.int .i64 (i : Int)]] : List (List V)) = [t.v] := by
     rw [<- e2, <- e3, <- e4, <- hat]; rfl
    simp only [Option.bind_some, onRet_ret, asTup_2, List.getD_cons_zero, List.getD_cons_succ, asAgg_4, Tk.v, asInt_int, asStr_str, hn0, cond_false]
    by_cases h4 : out.length = 4000
    ·rw [if_pos h4, h4]; rfl
    ·rw [if_neg h4, if_neg hk, decide_eq_false (show ¬ (((out.length : Nat) : Int) >= 4000) by omega), cond_false, ht4]
     rw [if_pos (by show out.length + 1 <= 1099511627776; omega)]
     have hw1 : IntKind.i64.wrap ((i : Int) + (n : Int)) = ((i + n : Nat) : Int) := by rw [wrap_in (by omega) (by omega)]; omega
     have hin : i + n <= l.length := by omega
     have hex2 : (B l).extract (i + n) l.length = B (l.drop (i + n)) := by
      rw [B_extract, List.take_of_length_le (by rw [List.length_drop]; omega)]
     have hbl := ref02_Blank_is (l.drop (i + n)) (by rw [List.length_drop]; omega)
     have hskl := sk_le false (l.drop (i + n))
     have hskd := sk_drop false (l.drop (i + n))
     rw [List.length_drop] at hskl
     rw [hw1, if_pos (show (0 : Int) <= ((i + n : Nat) : Int) by omega), Int.toNat_natCast, if_pos ⟨hin, Nat.le_refl _⟩, hex2, hbl]
     simp only [Option.bind_some, onRet_ret, asInt_int]
     rw [List.length_drop]
     generalize hj : l.length - (sk false (l.drop (i + n))).length = j at *
     have hw2 : IntKind.i64.wrap (((i + n : Nat) : Int) + ((l.length - (i + n) - (sk false (l.drop (i + n))).length : Nat) : Int)) = (j : Int) := by rw [wrap_in (by omega) (by omega)]; omega
     have hdj : sk false (l.drop (i + n)) = l.drop j := by
      rw [hskd, List.drop_drop]
      congr 1
      rw [List.length_drop]; omega
     have hdr : (c :: q).drop n = l.drop (i + n) := by rw [<- hcq, List.drop_drop]
     have happ : out.map Tk.v ++ [t.v] = (out ++ [t]).map Tk.v := by rw [List.map_append]; rfl
     rw [hw2, happ, hdr]
     exact ref02_scan_loop l hl f j (out ++ [t]) (l.drop (i + n)) (by omega) hdj (by rw [List.length_drop]; omega) (by rw [List.length_append, List.length_singleton]; omega)
  ·have hi' : i = l.length := by omega
   rw [decide_eq_false (show ¬ (i : Int) < (l.length : Int) by omega), cond_false]
   have hd : l.drop i = [] := by rw [hi', List.drop_length]
   rw [hd]
   have hn : next [] (i : Int) = (⟨0, [], 0, (i : Int)⟩, 0, true) := rfl
   rw [hn]
   dsimp only
   rw [if_neg (fun h : true = false => Bool.noConfusion h)]
   by_cases h4 : out.length = 4000
   ·rw [if_pos h4, h4]; rfl
   ·rw [if_neg h4, if_pos rfl, decide_eq_false (show ¬ (((out.length : Nat) : Int) >= 4000) by omega), cond_false]
    rw [if_pos (by show out.length + 1 <= 1099511627776; omega)]
    unfold scanV
    rw [List.map_append]; rfl
theorem ref02_Scan_is (l : List UInt8) (hl : l.length <= 140737488351232) : den Sp ref02_Scan.id [.str (B l)] [] none = scanV (scan l) := by
 rw [ref02_Scan.eq, B_size]
 unfold scan
 by_cases h : l.length > 16384
 ·rw [if_pos h, decide_eq_true (show ((l.length : Nat) : Int) > 16384 by omega), cond_true]; rfl
 ·rw [if_neg h, decide_eq_false (show ¬ ((l.length : Nat) : Int) > 16384 by omega), cond_false, ref02_Blank_is l (by omega)]
  simp only [Option.bind_some, onRet_ret, asInt_int]
  have hskl := sk_le false l
  exact ref02_scan_loop l (by omega) (l.length + 1) (l.length - (sk false l).length) [] l (by omega) (sk_drop false l) (by omega) (by simp)
end Go.Proofs.YtmhnmelaodhemaaGreatDoor
