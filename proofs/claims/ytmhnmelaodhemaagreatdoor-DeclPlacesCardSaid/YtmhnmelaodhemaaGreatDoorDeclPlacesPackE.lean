/- Own texts under the law DeclPlaces, merged, without what it does not lean on: part 5 of 7 (the abstract machine and its proof; residual forms; contracts; the plain law). -/
import Derived.Test.YtmhnmelaodhemaaGreatDoorDeclPlacesPackD
set_option linter.unusedVariables false
set_option linter.unusedSimpArgs false
set_option linter.unusedSectionVars false
set_option maxRecDepth 100000
namespace Go.Proofs.Ab
open Go
section
variable {R : Type}
theorem bind_h {α β : Type} {a b : Option α} {f : α -> Option β} (h : a = b) : a.bind f = b.bind f := by rw [h]
theorem asInt_h {v w : V} {kd : IntKind} {k : Int -> Option R} (h : v = w) : v.asInt kd k = w.asInt kd k := by rw [h]
theorem asBool_h {v w : V} {k : Bool -> Option R} (h : v = w) : v.asBool k = w.asBool k := by rw [h]
theorem asStr_h {v w : V} {k : ByteArray -> Option R} (h : v = w) : v.asStr k = w.asStr k := by rw [h]
theorem asSl_h {v w : V} {e : TypeId} {k : List (List V) -> Option R} (h : v = w) : v.asSl e k = w.asSl e k := by rw [h]
theorem asSlR_h {v w : V} {p : Nat} {e : TypeId} {k : List (List V) -> Option R} (h : v = w) : v.asSlR p e k = w.asSlR p e k := by rw [h]
theorem asAgg_h {v w : V} {n : Nat} {k : (Nat -> V) -> Option R} (h : v = w) : v.asAgg n k = w.asAgg n k := by rw [h]
theorem asTup_h {v w : V} {n : Nat} {k : (Nat -> V) -> Option R} (h : v = w) : v.asTup n k = w.asTup n k := by rw [h]
theorem asIface_h {v w : V} {t : TypeId} {k : V -> Option R} (h : v = w) : v.asIface t k = w.asIface t k := by rw [h]
theorem asCells_h {b c : Blk} {t : TypeId} {n : Nat} {k : (Nat -> V) -> Option R} (h : b = c) : b.asCells t n k = c.asCells t n k := by rw [h]
theorem onRet_h {r s : Res} {k : V -> Option R} (h : r = s) : r.onRet k = s.onRet k := by rw [h]
theorem onOut_h {r s : Res} {k kp : V -> Option R} (h : r = s) : r.onOut k kp = s.onOut k kp := by rw [h]
theorem cond_h {α : Type} {b c : Bool} {x y : α} (h : b = c) : cond b x y = cond c x y := by rw [h]
end
theorem lz : (∀ l : List UInt8, ByteArray.mk l.toArray = Px.B l) ∧
 (∀ (r : Res) (f : Res -> Option Res), (some r).bind f = f r) ∧
 (∀ (o : Out) (bl : List Blk) (pn : Option (Option V)), Res.bl ⟨o, bl, pn⟩ = bl) ∧
 (∀ {α : Type} (a : α) (l : List α) (d : α), (a :: l).getD 0 d = a) ∧
 (∀ {α : Type} (a : α) (l : List α) (n : Nat) (d : α), (a :: l).getD (n + 1) d = l.getD n d) ∧
 (∀ (t : TypeId) (x0 : V) (k : (Nat -> V) -> Option Res), Blk.asCells (.cells t [x0] false) t 1 k = k (fun j => List.getD [x0] j .undef)) ∧
 (∀ (t : TypeId) (x0 : V) (x1 : V) (k : (Nat -> V) -> Option Res), Blk.asCells (.cells t [x0, x1] false) t 2 k = k (fun j => List.getD [x0, x1] j .undef)) ∧
 (∀ (t : TypeId) (x0 : V) (x1 : V) (x2 : V) (k : (Nat -> V) -> Option Res), Blk.asCells (.cells t [x0, x1, x2] false) t 3 k = k (fun j => List.getD [x0, x1, x2] j .undef)) ∧
 (∀ (t : TypeId) (x0 : V) (x1 : V) (x2 : V) (x3 : V) (k : (Nat -> V) -> Option Res), Blk.asCells (.cells t [x0, x1, x2, x3] false) t 4 k = k (fun j => List.getD [x0, x1, x2, x3] j .undef)) ∧
 (∀ (t : TypeId) (x0 : V) (x1 : V) (x2 : V) (x3 : V) (x4 : V) (k : (Nat -> V) -> Option Res), Blk.asCells (.cells t [x0, x1, x2, x3, x4] false) t 5 k = k (fun j => List.getD [x0, x1, x2, x3, x4] j .undef)) ∧
 (∀ (t : TypeId) (x0 : V) (x1 : V) (x2 : V) (x3 : V) (x4 : V) (x5 : V) (k : (Nat -> V) -> Option Res), Blk.asCells (.cells t [x0, x1, x2, x3, x4, x5] false) t 6 k = k (fun j => List.getD [x0, x1, x2, x3, x4, x5] j .undef)) ∧
 (∀ (t : TypeId) (x0 : V) (x1 : V) (x2 : V) (x3 : V) (x4 : V) (x5 : V) (x6 : V) (k : (Nat -> V) -> Option Res), Blk.asCells (.cells t [x0, x1, x2, x3, x4, x5, x6] false) t 7 k = k (fun j => List.getD [x0, x1, x2, x3, x4, x5, x6] j .undef)) ∧
 (∀ (t : Tok) (e : TypeId) (es : List (List V)) (k : List (List V) -> Option Res), V.asSl (.sl t e es) e k = k es) ∧
 (∀ (p : Nat) (e : TypeId) (es : List (List V)) (k : List (List V) -> Option Res), V.asSlR (.sl (.row p) e es) p e k = k es) ∧
 (∀ (kd : IntKind) (n : Int) (k : Int -> Option Res), V.asInt (.int kd n) kd k = k n) ∧
 (∀ (s : ByteArray) (k : ByteArray -> Option Res), V.asStr (.str s) k = k s) ∧
 (∀ (b : Bool) (k : Bool -> Option Res), V.asBool (.bool b) k = k b) ∧
 (∀ (v : V) (bl : List Blk) (pn : Option (Option V)) (k : V -> Option Res), Res.onRet ⟨.ret v, bl, pn⟩ k = k v) ∧
 (∀ (v : V) (bl : List Blk) (pn : Option (Option V)) (k kp : V -> Option Res), Res.onOut ⟨.ret v, bl, pn⟩ k kp = k v) ∧
 (∀ (v : V) (bl : List Blk) (pn : Option (Option V)) (k kp : V -> Option Res), Res.onOut ⟨.pan v, bl, pn⟩ k kp = kp v) ∧
 (∀ (t : TypeId) (v : V) (k : V -> Option Res), V.asIface (.iface t v) t k = k v) ∧
 (∀ k : (Nat -> V) -> Option Res, V.asTup (.tup []) 0 k = k (fun j => List.getD [] j .undef)) ∧
 (∀ (x0 : V) (x1 : V) (k : (Nat -> V) -> Option Res), V.asAgg (.agg [x0, x1]) 2 k = k (fun j => List.getD [x0, x1] j .undef)) ∧
 (∀ (x0 : V) (x1 : V) (x2 : V) (x3 : V) (k : (Nat -> V) -> Option Res), V.asAgg (.agg [x0, x1, x2, x3]) 4 k = k (fun j => List.getD [x0, x1, x2, x3] j .undef)) ∧
 (∀ (x0 : V) (x1 : V) (k : (Nat -> V) -> Option Res), V.asTup (.tup [x0, x1]) 2 k = k (fun j => List.getD [x0, x1] j .undef)) ∧
 (∀ (x0 : V) (x1 : V) (x2 : V) (k : (Nat -> V) -> Option Res), V.asTup (.tup [x0, x1, x2]) 3 k = k (fun j => List.getD [x0, x1, x2] j .undef)) ∧
 (∀ (x0 : V) (x1 : V) (x2 : V) (x3 : V) (k : (Nat -> V) -> Option Res), V.asTup (.tup [x0, x1, x2, x3]) 4 k = k (fun j => List.getD [x0, x1, x2, x3] j .undef)) ∧
 (∀ x y : Option Res, cond true x y = x) ∧
 (∀ x y : Option Res, cond false x y = y) ∧
 ((!true) = false) ∧
 ((!false) = true) ∧
 (∀ n : Int, (n != n) = false) ∧
 ((false = true) = False) ∧
 (∀ a : V, beqV a a = true) ∧
 (∀ b : Bool, (b && true) = b) :=
 ⟨Px.mk_B, fun _ _ => rfl, bl_mk, fun _ _ _ => rfl, fun _ _ _ _ => List.getD_cons_succ, fun t x0 k => asCells_1 t x0 k, fun t x0 x1 k => asCells_2 t x0 x1 k, fun t x0 x1 x2 k => asCells_3 t x0 x1 x2 k, fun t x0 x1 x2 x3 k => asCells_4 t x0 x1 x2 x3 k, fun t x0 x1 x2 x3 x4 k => asCells_5 t x0 x1 x2 x3 x4 k, fun t x0 x1 x2 x3 x4 x5 k => asCells_6 t x0 x1 x2 x3 x4 x5 k, fun t x0 x1 x2 x3 x4 x5 x6 k => asCells_7 t x0 x1 x2 x3 x4 x5 x6 k, asSl_sl, asSlR_sl, asInt_int, asStr_str, asBool_bool, onRet_ret, onOut_ret, onOut_pan, asIface_iface, fun _ => rfl, fun x0 x1 k => asAgg_2 x0 x1 k, fun x0 x1 x2 x3 k => asAgg_4 x0 x1 x2 x3 k, fun x0 x1 k => asTup_2 x0 x1 k, fun x0 x1 x2 k => asTup_3 x0 x1 x2 k, fun x0 x1 x2 x3 k => asTup_4 x0 x1 x2 x3 k, fun _ _ => rfl, fun _ _ => rfl, rfl, rfl, fun n => bne_self_eq_false n, by simp, beqV_self, Bool.and_true⟩
end Go.Proofs.Ab
namespace Go.Proofs.YtmhnmelaodhemaaGreatDoor
open Go Go.Proofs.Ab
namespace ref12_in_fail
theorem eq (m0_0 : List (List V)) (m0_1 m0_2 m0_3 a1 : Int) : den Sp id [V.ref 0 0, V.int .i64 a1] [Blk.cells T_parallaxref12_in [V.sl .no T_api_Token m0_0, V.int .i64 m0_1, V.int .i64 m0_2, V.int .i64 m0_3] false] none =
  (bif (m0_2 == (0 : Int)) then (if (((0 : Int) <= m0_1) ∧ (m0_1 < (m0_0.length : Int))) then (V.asInt (List.getD (List.getD m0_0 (Int.toNat m0_1) []) 3 V.undef) .i64 (fun n8 => some ⟨Out.ret (V.tup []), [Blk.cells T_parallaxref12_in [V.sl .no T_api_Token m0_0, V.int .i64 m0_1, V.int .i64 a1, V.int .i64 n8] false], none⟩)) else none) else (some ⟨Out.ret (V.tup []), [Blk.cells T_parallaxref12_in [V.sl .no T_api_Token m0_0, V.int .i64 m0_1, V.int .i64 m0_2, V.int .i64 m0_3] false], none⟩)) := (den_eq ..).trans (by kernel_rfl)
end ref12_in_fail
namespace ref12_in_is
theorem eq (m0_0 : List (List V)) (m0_1 m0_2 m0_3 a1 : Int) (a2 : ByteArray) : den Sp id [V.ref 0 0, V.int .i64 a1, V.str a2] [Blk.cells T_parallaxref12_in [V.sl .no T_api_Token m0_0, V.int .i64 m0_1, V.int .i64 m0_2, V.int .i64 m0_3] false] none =
  (if (((0 : Int) <= m0_1) ∧ (m0_1 < (m0_0.length : Int))) then (V.asInt (List.getD (List.getD m0_0 (Int.toNat m0_1) []) 0 V.undef) .i64 (fun n8 => V.asStr (List.getD (List.getD m0_0 (Int.toNat m0_1) []) 1 V.undef) (fun s9 => V.asInt (List.getD (List.getD m0_0 (Int.toNat m0_1) []) 2 V.undef) .i64 (fun n10 => V.asInt (List.getD (List.getD m0_0 (Int.toNat m0_1) []) 3 V.undef) .i64 (fun n11 => bif (m0_2 == (0 : Int)) then (bif (n8 == a1) then (bif (decide (a2 = (ByteArray.mk #[]))) then (some ⟨Out.ret (V.bool true), [Blk.cells T_parallaxref12_in [V.sl .no T_api_Token m0_0, V.int .i64 m0_1, V.int .i64 m0_2, V.int .i64 m0_3] false], none⟩) else (some ⟨Out.ret (V.bool (decide (s9 = a2))), [Blk.cells T_parallaxref12_in [V.sl .no T_api_Token m0_0, V.int .i64 m0_1, V.int .i64 m0_2, V.int .i64 m0_3] false], none⟩)) else (some ⟨Out.ret (V.bool false), [Blk.cells T_parallaxref12_in [V.sl .no T_api_Token m0_0, V.int .i64 m0_1, V.int .i64 m0_2, V.int .i64 m0_3] false], none⟩)) else (some ⟨Out.ret (V.bool false), [Blk.cells T_parallaxref12_in [V.sl .no T_api_Token m0_0, V.int .i64 m0_1, V.int .i64 m0_2, V.int .i64 m0_3] false], none⟩)))))) else none) := (den_eq ..).trans (by kernel_rfl)
end ref12_in_is
namespace ref12_in_take
theorem eq (m0_0 : List (List V)) (m0_1 m0_2 m0_3 a1 : Int) (a2 : ByteArray) : den Sp id [V.ref 0 0, V.int .i64 a1, V.str a2] [Blk.cells T_parallaxref12_in [V.sl .no T_api_Token m0_0, V.int .i64 m0_1, V.int .i64 m0_2, V.int .i64 m0_3] false] none =
  (den Sp ref12_in_is.id [V.ref 0 0, V.int .i64 a1, V.str a2] [Blk.cells T_parallaxref12_in [V.sl .no T_api_Token m0_0, V.int .i64 m0_1, V.int .i64 m0_2, V.int .i64 m0_3] false] none).bind (fun r8 => Blk.asCells (List.getD (Res.bl r8) 0 (Blk.cells T_n0 [] true)) T_parallaxref12_in 4 (fun rd9 => V.asSl (rd9 0) T_api_Token (fun es10 => V.asInt (rd9 1) .i64 (fun n11 => V.asInt (rd9 2) .i64 (fun n12 => V.asInt (rd9 3) .i64 (fun n13 => Res.onRet r8 (fun v14 => V.asBool v14 (fun b15 => bif (!b15) then (den Sp ref12_in_fail.id [V.ref 0 0, V.int .i64 (30 : Int)] [Blk.cells T_parallaxref12_in [V.sl .no T_api_Token es10, V.int .i64 n11, V.int .i64 n12, V.int .i64 n13] false] none).bind (fun r17 => Blk.asCells (List.getD (Res.bl r17) 0 (Blk.cells T_n0 [] true)) T_parallaxref12_in 4 (fun rd18 => V.asSl (rd18 0) T_api_Token (fun es19 => V.asInt (rd18 1) .i64 (fun n20 => V.asInt (rd18 2) .i64 (fun n21 => V.asInt (rd18 3) .i64 (fun n22 => Res.onRet r17 (fun v23 => V.asTup v23 0 (fun rd24 => some ⟨Out.ret (V.agg [V.int .i64 (0 : Int), V.str (ByteArray.mk #[]), V.int .i64 (0 : Int), V.int .i64 (0 : Int)]), [Blk.cells T_parallaxref12_in [V.sl .no T_api_Token es19, V.int .i64 n20, V.int .i64 n21, V.int .i64 n22] false], none⟩)))))))) else (if (((0 : Int) <= (IntKind.wrap .i64 ((IntKind.wrap .i64 (n11 + (1 : Int))) - (1 : Int)))) ∧ ((IntKind.wrap .i64 ((IntKind.wrap .i64 (n11 + (1 : Int))) - (1 : Int))) < (es10.length : Int))) then (V.asInt (List.getD (List.getD es10 (Int.toNat (IntKind.wrap .i64 ((IntKind.wrap .i64 (n11 + (1 : Int))) - (1 : Int)))) []) 0 V.undef) .i64 (fun n18 => V.asStr (List.getD (List.getD es10 (Int.toNat (IntKind.wrap .i64 ((IntKind.wrap .i64 (n11 + (1 : Int))) - (1 : Int)))) []) 1 V.undef) (fun s19 => V.asInt (List.getD (List.getD es10 (Int.toNat (IntKind.wrap .i64 ((IntKind.wrap .i64 (n11 + (1 : Int))) - (1 : Int)))) []) 2 V.undef) .i64 (fun n20 => V.asInt (List.getD (List.getD es10 (Int.toNat (IntKind.wrap .i64 ((IntKind.wrap .i64 (n11 + (1 : Int))) - (1 : Int)))) []) 3 V.undef) .i64 (fun n21 => some ⟨Out.ret (V.agg [V.int .i64 n18, V.str s19, V.int .i64 n20, V.int .i64 n21]), [Blk.cells T_parallaxref12_in [V.sl .no T_api_Token es10, V.int .i64 (IntKind.wrap .i64 (n11 + (1 : Int))), V.int .i64 n12, V.int .i64 n13] false], none⟩))))) else none))))))))) := (den_eq ..).trans (by kernel_rfl)
end ref12_in_take
namespace ref12_in_name
theorem eq (m0_0 : List (List V)) (m0_1 m0_2 m0_3 : Int) : den Sp id [V.ref 0 0] [Blk.cells T_parallaxref12_in [V.sl .no T_api_Token m0_0, V.int .i64 m0_1, V.int .i64 m0_2, V.int .i64 m0_3] false] none =
  (den Sp ref12_in_take.id [V.ref 0 0, V.int .i64 (1 : Int), V.str (ByteArray.mk #[])] [Blk.cells T_parallaxref12_in [V.sl .no T_api_Token m0_0, V.int .i64 m0_1, V.int .i64 m0_2, V.int .i64 m0_3] false] none).bind (fun r6 => Blk.asCells (List.getD (Res.bl r6) 0 (Blk.cells T_n0 [] true)) T_parallaxref12_in 4 (fun rd7 => V.asSl (rd7 0) T_api_Token (fun es8 => V.asInt (rd7 1) .i64 (fun n9 => V.asInt (rd7 2) .i64 (fun n10 => V.asInt (rd7 3) .i64 (fun n11 => Res.onRet r6 (fun v12 => V.asAgg v12 4 (fun rd13 => V.asInt (rd13 0) .i64 (fun n14 => V.asStr (rd13 1) (fun s15 => V.asInt (rd13 2) .i64 (fun n16 => V.asInt (rd13 3) .i64 (fun n17 => some ⟨Out.ret (V.str s15), [Blk.cells T_parallaxref12_in [V.sl .no T_api_Token es8, V.int .i64 n9, V.int .i64 n10, V.int .i64 n11] false], none⟩)))))))))))) := (den_eq ..).trans (by kernel_rfl)
end ref12_in_name
namespace ref12_in_side
theorem eq (m0_0 : List (List V)) (m0_1 m0_2 m0_3 : Int) : den Sp id [V.ref 0 0] [Blk.cells T_parallaxref12_in [V.sl .no T_api_Token m0_0, V.int .i64 m0_1, V.int .i64 m0_2, V.int .i64 m0_3] false] none =
  (den Sp ref12_in_is.id [V.ref 0 0, V.int .i64 (1 : Int), V.str (ByteArray.mk #[114, 105, 103, 104, 116])] [Blk.cells T_parallaxref12_in [V.sl .no T_api_Token m0_0, V.int .i64 m0_1, V.int .i64 m0_2, V.int .i64 m0_3] false] none).bind (fun r6 => Blk.asCells (List.getD (Res.bl r6) 0 (Blk.cells T_n0 [] true)) T_parallaxref12_in 4 (fun rd7 => V.asSl (rd7 0) T_api_Token (fun es8 => V.asInt (rd7 1) .i64 (fun n9 => V.asInt (rd7 2) .i64 (fun n10 => V.asInt (rd7 3) .i64 (fun n11 => Res.onRet r6 (fun v12 => V.asBool v12 (fun b13 => bif b13 then (some ⟨Out.ret (V.int .i64 (1 : Int)), [Blk.cells T_parallaxref12_in [V.sl .no T_api_Token es8, V.int .i64 (IntKind.wrap .i64 (n9 + (1 : Int))), V.int .i64 n10, V.int .i64 n11] false], none⟩) else (den Sp ref12_in_take.id [V.ref 0 0, V.int .i64 (1 : Int), V.str (ByteArray.mk #[108, 101, 102, 116])] [Blk.cells T_parallaxref12_in [V.sl .no T_api_Token es8, V.int .i64 n9, V.int .i64 n10, V.int .i64 n11] false] none).bind (fun r15 => Blk.asCells (List.getD (Res.bl r15) 0 (Blk.cells T_n0 [] true)) T_parallaxref12_in 4 (fun rd16 => V.asSl (rd16 0) T_api_Token (fun es17 => V.asInt (rd16 1) .i64 (fun n18 => V.asInt (rd16 2) .i64 (fun n19 => V.asInt (rd16 3) .i64 (fun n20 => Res.onRet r15 (fun v21 => V.asAgg v21 4 (fun rd22 => V.asInt (rd22 0) .i64 (fun n23 => V.asStr (rd22 1) (fun s24 => V.asInt (rd22 2) .i64 (fun n25 => V.asInt (rd22 3) .i64 (fun n26 => some ⟨Out.ret (V.int .i64 (0 : Int)), [Blk.cells T_parallaxref12_in [V.sl .no T_api_Token es17, V.int .i64 n18, V.int .i64 n19, V.int .i64 n20] false], none⟩)))))))))))))))))))) := (den_eq ..).trans (by kernel_rfl)
end ref12_in_side
namespace ref12_in_most
theorem eq (m0_0 : List (List V)) (m0_1 m0_2 m0_3 a1 a2 : Int) : den Sp id [V.ref 0 0, V.int .i64 a1, V.int .i64 a2] [Blk.cells T_parallaxref12_in [V.sl .no T_api_Token m0_0, V.int .i64 m0_1, V.int .i64 m0_2, V.int .i64 m0_3] false] none =
  (bif (decide (a1 >= a2)) then (den Sp ref12_in_fail.id [V.ref 0 0, V.int .i64 (2 : Int)] [Blk.cells T_parallaxref12_in [V.sl .no T_api_Token m0_0, V.int .i64 m0_1, V.int .i64 m0_2, V.int .i64 m0_3] false] none).bind (fun r8 => Blk.asCells (List.getD (Res.bl r8) 0 (Blk.cells T_n0 [] true)) T_parallaxref12_in 4 (fun rd9 => V.asSl (rd9 0) T_api_Token (fun es10 => V.asInt (rd9 1) .i64 (fun n11 => V.asInt (rd9 2) .i64 (fun n12 => V.asInt (rd9 3) .i64 (fun n13 => Res.onRet r8 (fun v14 => V.asTup v14 0 (fun rd15 => some ⟨Out.ret (V.tup []), [Blk.cells T_parallaxref12_in [V.sl .no T_api_Token es10, V.int .i64 n11, V.int .i64 n12, V.int .i64 n13] false], none⟩)))))))) else (some ⟨Out.ret (V.tup []), [Blk.cells T_parallaxref12_in [V.sl .no T_api_Token m0_0, V.int .i64 m0_1, V.int .i64 m0_2, V.int .i64 m0_3] false], none⟩)) := (den_eq ..).trans (by kernel_rfl)
end ref12_in_most
end Go.Proofs.YtmhnmelaodhemaaGreatDoor
namespace Go.Proofs.YtmhnmelaodhemaaGreatDoor
open Go Go.Proofs.Ab Go.Proofs.Px
attribute [local congr] bind_h asInt_h asBool_h asStr_h asSl_h asSlR_h asAgg_h asTup_h asIface_h asCells_h onRet_h onOut_h cond_h
structure Rs where
 k : Nat
 e : Int
 a : Int
def in12 (l : List Tk) (s : Rs) : Blk := .cells T_parallaxref12_in [.sl .no T_api_Token (l.map Tk.v), .int .i64 s.k, .int .i64 s.e, .int .i64 s.a] false
def Rs.fail (l : List Tk) (s : Rs) (n : Int) : Rs := if s.e = 0 then ⟨s.k, n, (tk l s.k).at_⟩ else s
def Rs.is (l : List Tk) (s : Rs) (kind : Int) (text : List UInt8) : Bool := decide (s.e = 0) && (decide ((tk l s.k).kind = kind) && (decide (text = []) || decide ((tk l s.k).text = text)))
def Rs.next (s : Rs) : Rs := ⟨s.k + 1, s.e, s.a⟩
def Rs.take (l : List Tk) (s : Rs) (kind : Int) (text : List UInt8) : Rs := if s.is l kind text = true then s.next else s.fail l 30
def Rs.took (l : List Tk) (s : Rs) (kind : Int) (text : List UInt8) : Tk := if s.is l kind text = true then tk l s.k else ⟨0, [], 0, 0⟩
def Rs.side (l : List Tk) (s : Rs) : Rs := if s.is l 1 [114, 105, 103, 104, 116] = true then s.next else s.take l 1 [108, 101, 102, 116]
def Rs.sideN (l : List Tk) (s : Rs) : Int := if s.is l 1 [114, 105, 103, 104, 116] = true then 1 else 0
def Rs.most (l : List Tk) (s : Rs) (n most : Int) : Rs := if most <= n then s.fail l 2 else s
theorem Rs.fail_k (l : List Tk) (s : Rs) (n : Int) : (s.fail l n).k = s.k := by unfold Rs.fail; split <;> rfl
theorem Rs.is_kind {l : List Tk} {s : Rs} {kind : Int} {text : List UInt8} (h : s.is l kind text = true) : s.e = 0 ∧ (tk l s.k).kind = kind ∧ (text = [] ∨ (tk l s.k).text = text) := by
 unfold Rs.is at h
 simpa only [Bool.and_eq_true, Bool.or_eq_true, decide_eq_true_eq] using h
theorem took_v (t : Tk) : V.agg [.int .i64 t.kind, .str (B t.text), .int .i64 t.num, .int .i64 t.at_] = .agg t.v := rfl
theorem asAgg_tk (t : Tk) (k : (Nat -> V) -> Option Res) : V.asAgg (.agg t.v) 4 k = k (fun j => t.v.getD j .undef) := rfl
theorem zero_v : V.agg [.int .i64 0, .str (B []), .int .i64 0, .int .i64 0] = .agg (Tk.v ⟨0, [], 0, 0⟩) := rfl
section
variable {l : List Tk} (hl : Ended l) (hn : l.length <= 100000)
include hl hn
theorem next_lt {s : Rs} (hk : s.k < l.length) {kind : Int} {text : List UInt8} (h0 : kind ≠ 0) (h : s.is l kind text = true) : s.next.k < l.length :=
 hl.next hk (by rw [(Rs.is_kind h).2.1]; exact h0)
theorem take_lt {s : Rs} (hk : s.k < l.length) {kind : Int} (text : List UInt8) (h0 : kind ≠ 0) : (s.take l kind text).k < l.length := by
 unfold Rs.take
 split
 ·rename_i c; exact next_lt hl hn hk h0 c
 ·rw [Rs.fail_k]; exact hk
theorem side_lt {s : Rs} (hk : s.k < l.length) : (s.side l).k < l.length := by
 unfold Rs.side
 split
 ·rename_i c; exact next_lt hl hn hk (by decide) c
 ·exact take_lt hl hn hk _ (by decide)
theorem fail_12 {s : Rs} (hk : s.k < l.length) (e : Int) : den Sp ref12_in_fail.id [.ref 0 0, .int .i64 e] [in12 l s] none = some ⟨.ret (.tup []), [in12 l (s.fail l e)], none⟩ := by
 unfold in12 Rs.fail
 rw [ref12_in_fail.eq]
 simp only [if_pos (row_in hk), Int.toNat_natCast, tok_g hk, tkv_0, tkv_1, tkv_2, tkv_3, asInt_int, asStr_str]
 by_cases c : s.e = 0 <;> simp [c]
theorem is_12 {s : Rs} (hk : s.k < l.length) (kind : Int) (text : List UInt8) : den Sp ref12_in_is.id [.ref 0 0, .int .i64 kind, .str (B text)] [in12 l s] none = some ⟨.ret (.bool (s.is l kind text)), [in12 l s], none⟩ := by
 unfold in12 Rs.is
 rw [ref12_in_is.eq]
 have e0 : (decide (B text = B [])) = decide (text = []) := B_dec ..
 simp only [if_pos (row_in hk), Int.toNat_natCast, tok_g hk, tkv_0, tkv_1, tkv_2, tkv_3, asInt_int, asStr_str, mk_B, e0, B_dec]
 by_cases c : s.e = 0 <;> by_cases c2 : (tk l s.k).kind = kind <;> by_cases c3 : text = [] <;> by_cases c1 : (tk l s.k).text = text <;> simp [c, c1, c2, c3]
theorem take_12 {s : Rs} (hk : s.k < l.length) {kind : Int} (h0 : kind ≠ 0) (text : List UInt8) :
  den Sp ref12_in_take.id [.ref 0 0, .int .i64 kind, .str (B text)] [in12 l s] none = some ⟨.ret (.agg (s.took l kind text).v), [in12 l (s.take l kind text)], none⟩ := by
 have h1 := is_12 hl hn hk kind text
 have h2 := fail_12 hl hn hk 30
 have w := wr1 (show s.k < 1099511627776 by omega)
 have w2 : IntKind.i64.wrap (((s.k + 1 : Nat) : Int) - 1) = (s.k : Int) := by rw [wrap_in (by omega) (by omega)]; omega
 have r := row_in hk
 unfold Rs.take Rs.took
 cases c : s.is l kind text with
 | false =>
  rw [c] at h1
  rw [if_neg (by simp), if_neg (by simp), <- zero_v]
  unfold in12 at *
  rw [ref12_in_take.eq]
  simp only [h1, h2, lz, lx, if_true, if_false]
 | true =>
  rw [c] at h1
  rw [if_pos rfl, if_pos rfl, <- took_v]
  unfold in12 Rs.next at *
  rw [ref12_in_take.eq]
  simp only [h1, w, w2, if_pos r, Int.toNat_natCast, tok_g hk, tkv_0, tkv_1, tkv_2, tkv_3, lz, lx, if_true, if_false]
theorem name_12 {s : Rs} (hk : s.k < l.length) : den Sp ref12_in_name.id [.ref 0 0] [in12 l s] none = some ⟨.ret (.str (B (s.took l 1 []).text)), [in12 l (s.take l 1 [])], none⟩ := by
 have h1 := take_12 hl hn hk (kind := 1) (by decide) []
 generalize s.took l 1 [] = t at *
 generalize s.take l 1 [] = s' at *
 unfold in12 at *
 rw [ref12_in_name.eq]
 simp only [h1, asAgg_tk, tkv_0, tkv_1, tkv_2, tkv_3, lz, lx, if_true, if_false]
theorem side_12 {s : Rs} (hk : s.k < l.length) : den Sp ref12_in_side.id [.ref 0 0] [in12 l s] none = some ⟨.ret (.int .i64 (s.sideN l)), [in12 l (s.side l)], none⟩ := by
 have h1 := is_12 hl hn hk 1 [114, 105, 103, 104, 116]
 have h2 := take_12 hl hn hk (kind := 1) (by decide) [108, 101, 102, 116]
 have w := wr1 (show s.k < 1099511627776 by omega)
 unfold Rs.side Rs.sideN
 generalize s.took l 1 [108, 101, 102, 116] = t at *
 generalize s.take l 1 [108, 101, 102, 116] = s' at *
 cases c : s.is l 1 [114, 105, 103, 104, 116] with
 | false =>
  rw [c] at h1
  rw [if_neg (by simp), if_neg (by simp)]
  unfold in12 at *
  rw [ref12_in_side.eq]
  simp only [h1, h2, asAgg_tk, tkv_0, tkv_1, tkv_2, tkv_3, lz, lx, if_true, if_false]
 | true =>
  rw [c] at h1
  rw [if_pos rfl, if_pos rfl]
  unfold in12 Rs.next at *
  rw [ref12_in_side.eq]
  simp only [h1, w, lz, lx, if_true, if_false]
theorem most_12 {s : Rs} (hk : s.k < l.length) (n m : Int) : den Sp ref12_in_most.id [.ref 0 0, .int .i64 n, .int .i64 m] [in12 l s] none = some ⟨.ret (.tup []), [in12 l (s.most l n m)], none⟩ := by
 have h2 := fail_12 hl hn hk 2
 unfold Rs.most
 by_cases c : m <= n
 ·rw [if_pos c]
  have c' : decide (n >= m) = true := decide_eq_true c
  unfold in12 at *
  rw [ref12_in_most.eq]
  simp only [c', h2, lz, lx, if_true, if_false]
 ·rw [if_neg c]
  have c' : decide (n >= m) = false := decide_eq_false c
  unfold in12 at *
  rw [ref12_in_most.eq]
  simp only [c', lz, lx, if_true, if_false]
end
end Go.Proofs.YtmhnmelaodhemaaGreatDoor
namespace Go.Proofs.YtmhnmelaodhemaaGreatDoor
open Go Go.Proofs.Ab
namespace decl_reader_line
theorem eq (m0_0 : List (List V)) (m0_1 : Int) (m0_2 m0_3 m0_4 m0_5 m0_6 : List (List V)) : den Sp id [V.ref 0 0] [Blk.cells T_decl_reader [V.sl .no T_api_Token m0_0, V.int .i64 m0_1, V.sl (Tok.row 0) T_api_Pair m0_2, V.sl (Tok.row 1) T_api_Pair m0_3, V.sl (Tok.row 2) T_decl_Keep m0_4, V.sl (Tok.row 3) T_decl_Break m0_5, V.sl (Tok.row 4) T_decl_Watch m0_6] false] none =
  (den Sp decl_reader_word.id [V.ref 0 0, V.str (ByteArray.mk #[112, 97, 105, 114])] [Blk.cells T_decl_reader [V.sl .no T_api_Token m0_0, V.int .i64 m0_1] false] none).bind (fun r9 => Blk.asCells (List.getD (Res.bl r9) 0 (Blk.cells T_n0 [] true)) T_decl_reader 2 (fun rd10 => V.asSl (rd10 0) T_api_Token (fun es11 => V.asInt (rd10 1) .i64 (fun n12 => Res.onRet r9 (fun v13 => V.asBool v13 (fun b14 => bif b14 then (den Sp decl_reader_full.id [V.ref 0 0, V.int .i64 m0_1, V.int .i64 (m0_2.length : Int), V.int .i64 (40 : Int)] [Blk.cells T_decl_reader [V.sl .no T_api_Token es11, V.int .i64 n12] false] none).bind (fun r16 => Blk.asCells (List.getD (Res.bl r16) 0 (Blk.cells T_n0 [] true)) T_decl_reader 2 (fun rd17 => V.asSl (rd17 0) T_api_Token (fun es18 => V.asInt (rd17 1) .i64 (fun n19 => Res.onOut r16 (fun v20 => V.asTup v20 0 (fun rd21 => (den Sp decl_reader_name.id [V.ref 0 0] [Blk.cells T_decl_reader [V.sl .no T_api_Token es18, V.int .i64 (IntKind.wrap .i64 (n19 + (1 : Int)))] false] none).bind (fun r24 => Blk.asCells (List.getD (Res.bl r24) 0 (Blk.cells T_n0 [] true)) T_decl_reader 2 (fun rd25 => V.asSl (rd25 0) T_api_Token (fun es26 => V.asInt (rd25 1) .i64 (fun n27 => Res.onOut r24 (fun v28 => V.asStr v28 (fun s29 => (den Sp decl_reader_name.id [V.ref 0 0] [Blk.cells T_decl_reader [V.sl .no T_api_Token es26, V.int .i64 n27] false] none).bind (fun r31 => Blk.asCells (List.getD (Res.bl r31) 0 (Blk.cells T_n0 [] true)) T_decl_reader 2 (fun rd32 => V.asSl (rd32 0) T_api_Token (fun es33 => V.asInt (rd32 1) .i64 (fun n34 => Res.onOut r31 (fun v35 => V.asStr v35 (fun s36 => bif ((beqV (V.sl (Tok.row 0) T_api_Pair m0_2) (V.sl (Tok.row 0) T_api_Pair m0_2)) && true) then (bif (decide ((m0_2.length : Int) >= (40 : Int))) then (if (((0 : Int) <= m0_1) ∧ (m0_1 < (es33.length : Int))) then (V.asInt (List.getD (List.getD es33 (Int.toNat m0_1) []) 3 V.undef) .i64 (fun n37 => some ⟨Out.pan (V.iface T_decl_given (V.agg [V.int .i64 n37, V.int .i64 (2 : Int)])), [Blk.cells T_decl_reader [V.sl .no T_api_Token es33, V.int .i64 n34, V.sl (Tok.row 0) T_api_Pair m0_2, V.sl (Tok.row 1) T_api_Pair m0_3, V.sl (Tok.row 2) T_decl_Keep m0_4, V.sl (Tok.row 3) T_decl_Break m0_5, V.sl (Tok.row 4) T_decl_Watch m0_6] false], none⟩)) else none) else (if (((List.length m0_2) + (List.length [[V.str s29, V.str s36, V.str (ByteArray.mk #[]), V.str (ByteArray.mk #[])]])) <= most) then (den Sp decl_reader_sign.id [V.ref 0 0, V.str (ByteArray.mk #[59])] [Blk.cells T_decl_reader [V.sl .no T_api_Token es33, V.int .i64 n34] false] none).bind (fun r38 => Blk.asCells (List.getD (Res.bl r38) 0 (Blk.cells T_n0 [] true)) T_decl_reader 2 (fun rd39 => V.asSl (rd39 0) T_api_Token (fun es40 => V.asInt (rd39 1) .i64 (fun n41 => Res.onOut r38 (fun v42 => V.asTup v42 0 (fun rd43 => some ⟨Out.ret (V.tup []), [Blk.cells T_decl_reader [V.sl .no T_api_Token es40, V.int .i64 n41, V.sl (Tok.row 0) T_api_Pair (m0_2 ++ [[V.str s29, V.str s36, V.str (ByteArray.mk #[]), V.str (ByteArray.mk #[])]]), V.sl (Tok.row 1) T_api_Pair m0_3, V.sl (Tok.row 2) T_decl_Keep m0_4, V.sl (Tok.row 3) T_decl_Break m0_5, V.sl (Tok.row 4) T_decl_Watch m0_6] false], none⟩)) (fun v42 => V.asIface v42 T_decl_given (fun w43 => V.asAgg w43 2 (fun rd44 => V.asInt (rd44 0) .i64 (fun n45 => V.asInt (rd44 1) .i64 (fun n46 => some ⟨Out.pan (V.iface T_decl_given (V.agg [V.int .i64 n45, V.int .i64 n46])), [Blk.cells T_decl_reader [V.sl .no T_api_Token es40, V.int .i64 n41, V.sl (Tok.row 0) T_api_Pair (m0_2 ++ [[V.str s29, V.str s36, V.str (ByteArray.mk #[]), V.str (ByteArray.mk #[])]]), V.sl (Tok.row 1) T_api_Pair m0_3, V.sl (Tok.row 2) T_decl_Keep m0_4, V.sl (Tok.row 3) T_decl_Break m0_5, V.sl (Tok.row 4) T_decl_Watch m0_6] false], none⟩))))))))) else none)) else none)) (fun v35 => V.asIface v35 T_decl_given (fun w36 => V.asAgg w36 2 (fun rd37 => V.asInt (rd37 0) .i64 (fun n38 => V.asInt (rd37 1) .i64 (fun n39 => some ⟨Out.pan (V.iface T_decl_given (V.agg [V.int .i64 n38, V.int .i64 n39])), [Blk.cells T_decl_reader [V.sl .no T_api_Token es33, V.int .i64 n34, V.sl (Tok.row 0) T_api_Pair m0_2, V.sl (Tok.row 1) T_api_Pair m0_3, V.sl (Tok.row 2) T_decl_Keep m0_4, V.sl (Tok.row 3) T_decl_Break m0_5, V.sl (Tok.row 4) T_decl_Watch m0_6] false], none⟩))))))))))) (fun v28 => V.asIface v28 T_decl_given (fun w29 => V.asAgg w29 2 (fun rd30 => V.asInt (rd30 0) .i64 (fun n31 => V.asInt (rd30 1) .i64 (fun n32 => some ⟨Out.pan (V.iface T_decl_given (V.agg [V.int .i64 n31, V.int .i64 n32])), [Blk.cells T_decl_reader [V.sl .no T_api_Token es26, V.int .i64 n27, V.sl (Tok.row 0) T_api_Pair m0_2, V.sl (Tok.row 1) T_api_Pair m0_3, V.sl (Tok.row 2) T_decl_Keep m0_4, V.sl (Tok.row 3) T_decl_Break m0_5, V.sl (Tok.row 4) T_decl_Watch m0_6] false], none⟩))))))))))) (fun v20 => V.asIface v20 T_decl_given (fun w21 => V.asAgg w21 2 (fun rd22 => V.asInt (rd22 0) .i64 (fun n23 => V.asInt (rd22 1) .i64 (fun n24 => some ⟨Out.pan (V.iface T_decl_given (V.agg [V.int .i64 n23, V.int .i64 n24])), [Blk.cells T_decl_reader [V.sl .no T_api_Token es18, V.int .i64 n19, V.sl (Tok.row 0) T_api_Pair m0_2, V.sl (Tok.row 1) T_api_Pair m0_3, V.sl (Tok.row 2) T_decl_Keep m0_4, V.sl (Tok.row 3) T_decl_Break m0_5, V.sl (Tok.row 4) T_decl_Watch m0_6] false], none⟩))))))))) else (den Sp decl_reader_word.id [V.ref 0 0, V.str (ByteArray.mk #[115, 97, 109, 101])] [Blk.cells T_decl_reader [V.sl .no T_api_Token es11, V.int .i64 n12] false] none).bind (fun r16 => Blk.asCells (List.getD (Res.bl r16) 0 (Blk.cells T_n0 [] true)) T_decl_reader 2 (fun rd17 => V.asSl (rd17 0) T_api_Token (fun es18 => V.asInt (rd17 1) .i64 (fun n19 => Res.onRet r16 (fun v20 => V.asBool v20 (fun b21 => bif b21 then (den Sp decl_reader_full.id [V.ref 0 0, V.int .i64 m0_1, V.int .i64 (m0_3.length : Int), V.int .i64 (40 : Int)] [Blk.cells T_decl_reader [V.sl .no T_api_Token es18, V.int .i64 n19] false] none).bind (fun r23 => Blk.asCells (List.getD (Res.bl r23) 0 (Blk.cells T_n0 [] true)) T_decl_reader 2 (fun rd24 => V.asSl (rd24 0) T_api_Token (fun es25 => V.asInt (rd24 1) .i64 (fun n26 => Res.onOut r23 (fun v27 => V.asTup v27 0 (fun rd28 => (den Sp decl_reader_same.id [V.ref 0 0] [Blk.cells T_decl_reader [V.sl .no T_api_Token es25, V.int .i64 (IntKind.wrap .i64 (n26 + (1 : Int)))] false] none).bind (fun r31 => Blk.asCells (List.getD (Res.bl r31) 0 (Blk.cells T_n0 [] true)) T_decl_reader 2 (fun rd32 => V.asSl (rd32 0) T_api_Token (fun es33 => V.asInt (rd32 1) .i64 (fun n34 => Res.onOut r31 (fun v35 => V.asAgg v35 4 (fun rd36 => V.asStr (rd36 0) (fun s37 => V.asStr (rd36 1) (fun s38 => V.asStr (rd36 2) (fun s39 => V.asStr (rd36 3) (fun s40 => bif (decide ((m0_3.length : Int) >= (40 : Int))) then (if (((0 : Int) <= m0_1) ∧ (m0_1 < (es33.length : Int))) then (V.asInt (List.getD (List.getD es33 (Int.toNat m0_1) []) 3 V.undef) .i64 (fun n42 => some ⟨Out.pan (V.iface T_decl_given (V.agg [V.int .i64 n42, V.int .i64 (2 : Int)])), [Blk.cells T_decl_reader [V.sl .no T_api_Token es33, V.int .i64 n34, V.sl (Tok.row 0) T_api_Pair m0_2, V.sl (Tok.row 1) T_api_Pair m0_3, V.sl (Tok.row 2) T_decl_Keep m0_4, V.sl (Tok.row 3) T_decl_Break m0_5, V.sl (Tok.row 4) T_decl_Watch m0_6] false], none⟩)) else none) else (if (((List.length m0_3) + (List.length [[V.str s37, V.str s38, V.str s39, V.str s40]])) <= most) then (den Sp decl_reader_sign.id [V.ref 0 0, V.str (ByteArray.mk #[59])] [Blk.cells T_decl_reader [V.sl .no T_api_Token es33, V.int .i64 n34] false] none).bind (fun r43 => Blk.asCells (List.getD (Res.bl r43) 0 (Blk.cells T_n0 [] true)) T_decl_reader 2 (fun rd44 => V.asSl (rd44 0) T_api_Token (fun es45 => V.asInt (rd44 1) .i64 (fun n46 => Res.onOut r43 (fun v47 => V.asTup v47 0 (fun rd48 => some ⟨Out.ret (V.tup []), [Blk.cells T_decl_reader [V.sl .no T_api_Token es45, V.int .i64 n46, V.sl (Tok.row 0) T_api_Pair m0_2, V.sl (Tok.row 1) T_api_Pair (m0_3 ++ [[V.str s37, V.str s38, V.str s39, V.str s40]]), V.sl (Tok.row 2) T_decl_Keep m0_4, V.sl (Tok.row 3) T_decl_Break m0_5, V.sl (Tok.row 4) T_decl_Watch m0_6] false], none⟩)) (fun v47 => V.asIface v47 T_decl_given (fun w48 => V.asAgg w48 2 (fun rd49 => V.asInt (rd49 0) .i64 (fun n50 => V.asInt (rd49 1) .i64 (fun n51 => some ⟨Out.pan (V.iface T_decl_given (V.agg [V.int .i64 n50, V.int .i64 n51])), [Blk.cells T_decl_reader [V.sl .no T_api_Token es45, V.int .i64 n46, V.sl (Tok.row 0) T_api_Pair m0_2, V.sl (Tok.row 1) T_api_Pair (m0_3 ++ [[V.str s37, V.str s38, V.str s39, V.str s40]]), V.sl (Tok.row 2) T_decl_Keep m0_4, V.sl (Tok.row 3) T_decl_Break m0_5, V.sl (Tok.row 4) T_decl_Watch m0_6] false], none⟩))))))))) else none))))))) (fun v35 => V.asIface v35 T_decl_given (fun w36 => V.asAgg w36 2 (fun rd37 => V.asInt (rd37 0) .i64 (fun n38 => V.asInt (rd37 1) .i64 (fun n39 => some ⟨Out.pan (V.iface T_decl_given (V.agg [V.int .i64 n38, V.int .i64 n39])), [Blk.cells T_decl_reader [V.sl .no T_api_Token es33, V.int .i64 n34, V.sl (Tok.row 0) T_api_Pair m0_2, V.sl (Tok.row 1) T_api_Pair m0_3, V.sl (Tok.row 2) T_decl_Keep m0_4, V.sl (Tok.row 3) T_decl_Break m0_5, V.sl (Tok.row 4) T_decl_Watch m0_6] false], none⟩))))))))))) (fun v27 => V.asIface v27 T_decl_given (fun w28 => V.asAgg w28 2 (fun rd29 => V.asInt (rd29 0) .i64 (fun n30 => V.asInt (rd29 1) .i64 (fun n31 => some ⟨Out.pan (V.iface T_decl_given (V.agg [V.int .i64 n30, V.int .i64 n31])), [Blk.cells T_decl_reader [V.sl .no T_api_Token es25, V.int .i64 n26, V.sl (Tok.row 0) T_api_Pair m0_2, V.sl (Tok.row 1) T_api_Pair m0_3, V.sl (Tok.row 2) T_decl_Keep m0_4, V.sl (Tok.row 3) T_decl_Break m0_5, V.sl (Tok.row 4) T_decl_Watch m0_6] false], none⟩))))))))) else (den Sp decl_reader_word.id [V.ref 0 0, V.str (ByteArray.mk #[107, 101, 101, 112])] [Blk.cells T_decl_reader [V.sl .no T_api_Token es18, V.int .i64 n19] false] none).bind (fun r23 => Blk.asCells (List.getD (Res.bl r23) 0 (Blk.cells T_n0 [] true)) T_decl_reader 2 (fun rd24 => V.asSl (rd24 0) T_api_Token (fun es25 => V.asInt (rd24 1) .i64 (fun n26 => Res.onRet r23 (fun v27 => V.asBool v27 (fun b28 => bif b28 then (den Sp decl_reader_full.id [V.ref 0 0, V.int .i64 m0_1, V.int .i64 (m0_4.length : Int), V.int .i64 (40 : Int)] [Blk.cells T_decl_reader [V.sl .no T_api_Token es25, V.int .i64 n26] false] none).bind (fun r30 => Blk.asCells (List.getD (Res.bl r30) 0 (Blk.cells T_n0 [] true)) T_decl_reader 2 (fun rd31 => V.asSl (rd31 0) T_api_Token (fun es32 => V.asInt (rd31 1) .i64 (fun n33 => Res.onOut r30 (fun v34 => V.asTup v34 0 (fun rd35 => (den Sp decl_reader_side.id [V.ref 0 0] [Blk.cells T_decl_reader [V.sl .no T_api_Token es32, V.int .i64 (IntKind.wrap .i64 (n33 + (1 : Int)))] false] none).bind (fun r38 => Blk.asCells (List.getD (Res.bl r38) 0 (Blk.cells T_n0 [] true)) T_decl_reader 2 (fun rd39 => V.asSl (rd39 0) T_api_Token (fun es40 => V.asInt (rd39 1) .i64 (fun n41 => Res.onOut r38 (fun v42 => V.asInt v42 .i64 (fun n43 => (den Sp decl_reader_name.id [V.ref 0 0] [Blk.cells T_decl_reader [V.sl .no T_api_Token es40, V.int .i64 n41] false] none).bind (fun r45 => Blk.asCells (List.getD (Res.bl r45) 0 (Blk.cells T_n0 [] true)) T_decl_reader 2 (fun rd46 => V.asSl (rd46 0) T_api_Token (fun es47 => V.asInt (rd46 1) .i64 (fun n48 => Res.onOut r45 (fun v49 => V.asStr v49 (fun s50 => (den Sp decl_reader_name.id [V.ref 0 0] [Blk.cells T_decl_reader [V.sl .no T_api_Token es47, V.int .i64 n48] false] none).bind (fun r52 => Blk.asCells (List.getD (Res.bl r52) 0 (Blk.cells T_n0 [] true)) T_decl_reader 2 (fun rd53 => V.asSl (rd53 0) T_api_Token (fun es54 => V.asInt (rd53 1) .i64 (fun n55 => Res.onOut r52 (fun v56 => V.asStr v56 (fun s57 => bif ((beqV (V.sl (Tok.row 2) T_decl_Keep m0_4) (V.sl (Tok.row 2) T_decl_Keep m0_4)) && true) then (bif (decide ((m0_4.length : Int) >= (40 : Int))) then (if (((0 : Int) <= m0_1) ∧ (m0_1 < (es54.length : Int))) then (V.asInt (List.getD (List.getD es54 (Int.toNat m0_1) []) 3 V.undef) .i64 (fun n58 => some ⟨Out.pan (V.iface T_decl_given (V.agg [V.int .i64 n58, V.int .i64 (2 : Int)])), [Blk.cells T_decl_reader [V.sl .no T_api_Token es54, V.int .i64 n55, V.sl (Tok.row 0) T_api_Pair m0_2, V.sl (Tok.row 1) T_api_Pair m0_3, V.sl (Tok.row 2) T_decl_Keep m0_4, V.sl (Tok.row 3) T_decl_Break m0_5, V.sl (Tok.row 4) T_decl_Watch m0_6] false], none⟩)) else none) else (if (((List.length m0_4) + (List.length [[V.int .i64 n43, V.str s50, V.str s57]])) <= most) then (den Sp decl_reader_sign.id [V.ref 0 0, V.str (ByteArray.mk #[59])] [Blk.cells T_decl_reader [V.sl .no T_api_Token es54, V.int .i64 n55] false] none).bind (fun r59 => Blk.asCells (List.getD (Res.bl r59) 0 (Blk.cells T_n0 [] true)) T_decl_reader 2 (fun rd60 => V.asSl (rd60 0) T_api_Token (fun es61 => V.asInt (rd60 1) .i64 (fun n62 => Res.onOut r59 (fun v63 => V.asTup v63 0 (fun rd64 => some ⟨Out.ret (V.tup []), [Blk.cells T_decl_reader [V.sl .no T_api_Token es61, V.int .i64 n62, V.sl (Tok.row 0) T_api_Pair m0_2, V.sl (Tok.row 1) T_api_Pair m0_3, V.sl (Tok.row 2) T_decl_Keep (m0_4 ++ [[V.int .i64 n43, V.str s50, V.str s57]]), V.sl (Tok.row 3) T_decl_Break m0_5, V.sl (Tok.row 4) T_decl_Watch m0_6] false], none⟩)) (fun v63 => V.asIface v63 T_decl_given (fun w64 => V.asAgg w64 2 (fun rd65 => V.asInt (rd65 0) .i64 (fun n66 => V.asInt (rd65 1) .i64 (fun n67 => some ⟨Out.pan (V.iface T_decl_given (V.agg [V.int .i64 n66, V.int .i64 n67])), [Blk.cells T_decl_reader [V.sl .no T_api_Token es61, V.int .i64 n62, V.sl (Tok.row 0) T_api_Pair m0_2, V.sl (Tok.row 1) T_api_Pair m0_3, V.sl (Tok.row 2) T_decl_Keep (m0_4 ++ [[V.int .i64 n43, V.str s50, V.str s57]]), V.sl (Tok.row 3) T_decl_Break m0_5, V.sl (Tok.row 4) T_decl_Watch m0_6] false], none⟩))))))))) else none)) else none)) (fun v56 => V.asIface v56 T_decl_given (fun w57 => V.asAgg w57 2 (fun rd58 => V.asInt (rd58 0) .i64 (fun n59 => V.asInt (rd58 1) .i64 (fun n60 => some ⟨Out.pan (V.iface T_decl_given (V.agg [V.int .i64 n59, V.int .i64 n60])), [Blk.cells T_decl_reader [V.sl .no T_api_Token es54, V.int .i64 n55, V.sl (Tok.row 0) T_api_Pair m0_2, V.sl (Tok.row 1) T_api_Pair m0_3, V.sl (Tok.row 2) T_decl_Keep m0_4, V.sl (Tok.row 3) T_decl_Break m0_5, V.sl (Tok.row 4) T_decl_Watch m0_6] false], none⟩))))))))))) (fun v49 => V.asIface v49 T_decl_given (fun w50 => V.asAgg w50 2 (fun rd51 => V.asInt (rd51 0) .i64 (fun n52 => V.asInt (rd51 1) .i64 (fun n53 => some ⟨Out.pan (V.iface T_decl_given (V.agg [V.int .i64 n52, V.int .i64 n53])), [Blk.cells T_decl_reader [V.sl .no T_api_Token es47, V.int .i64 n48, V.sl (Tok.row 0) T_api_Pair m0_2, V.sl (Tok.row 1) T_api_Pair m0_3, V.sl (Tok.row 2) T_decl_Keep m0_4, V.sl (Tok.row 3) T_decl_Break m0_5, V.sl (Tok.row 4) T_decl_Watch m0_6] false], none⟩))))))))))) (fun v42 => V.asIface v42 T_decl_given (fun w43 => V.asAgg w43 2 (fun rd44 => V.asInt (rd44 0) .i64 (fun n45 => V.asInt (rd44 1) .i64 (fun n46 => some ⟨Out.pan (V.iface T_decl_given (V.agg [V.int .i64 n45, V.int .i64 n46])), [Blk.cells T_decl_reader [V.sl .no T_api_Token es40, V.int .i64 n41, V.sl (Tok.row 0) T_api_Pair m0_2, V.sl (Tok.row 1) T_api_Pair m0_3, V.sl (Tok.row 2) T_decl_Keep m0_4, V.sl (Tok.row 3) T_decl_Break m0_5, V.sl (Tok.row 4) T_decl_Watch m0_6] false], none⟩))))))))))) (fun v34 => V.asIface v34 T_decl_given (fun w35 => V.asAgg w35 2 (fun rd36 => V.asInt (rd36 0) .i64 (fun n37 => V.asInt (rd36 1) .i64 (fun n38 => some ⟨Out.pan (V.iface T_decl_given (V.agg [V.int .i64 n37, V.int .i64 n38])), [Blk.cells T_decl_reader [V.sl .no T_api_Token es32, V.int .i64 n33, V.sl (Tok.row 0) T_api_Pair m0_2, V.sl (Tok.row 1) T_api_Pair m0_3, V.sl (Tok.row 2) T_decl_Keep m0_4, V.sl (Tok.row 3) T_decl_Break m0_5, V.sl (Tok.row 4) T_decl_Watch m0_6] false], none⟩))))))))) else (den Sp decl_reader_word.id [V.ref 0 0, V.str (ByteArray.mk #[98, 114, 101, 97, 107])] [Blk.cells T_decl_reader [V.sl .no T_api_Token es25, V.int .i64 n26] false] none).bind (fun r30 => Blk.asCells (List.getD (Res.bl r30) 0 (Blk.cells T_n0 [] true)) T_decl_reader 2 (fun rd31 => V.asSl (rd31 0) T_api_Token (fun es32 => V.asInt (rd31 1) .i64 (fun n33 => Res.onRet r30 (fun v34 => V.asBool v34 (fun b35 => bif b35 then (den Sp decl_reader_full.id [V.ref 0 0, V.int .i64 m0_1, V.int .i64 (m0_5.length : Int), V.int .i64 (40 : Int)] [Blk.cells T_decl_reader [V.sl .no T_api_Token es32, V.int .i64 n33] false] none).bind (fun r37 => Blk.asCells (List.getD (Res.bl r37) 0 (Blk.cells T_n0 [] true)) T_decl_reader 2 (fun rd38 => V.asSl (rd38 0) T_api_Token (fun es39 => V.asInt (rd38 1) .i64 (fun n40 => Res.onOut r37 (fun v41 => V.asTup v41 0 (fun rd42 => (den Sp decl_reader_stop.id [V.ref 0 0] [Blk.cells T_decl_reader [V.sl .no T_api_Token es39, V.int .i64 (IntKind.wrap .i64 (n40 + (1 : Int)))] false] none).bind (fun r45 => Blk.asCells (List.getD (Res.bl r45) 0 (Blk.cells T_n0 [] true)) T_decl_reader 2 (fun rd46 => V.asSl (rd46 0) T_api_Token (fun es47 => V.asInt (rd46 1) .i64 (fun n48 => Res.onOut r45 (fun v49 => V.asAgg v49 4 (fun rd50 => V.asInt (rd50 0) .i64 (fun n51 => V.asStr (rd50 1) (fun s52 => V.asInt (rd50 2) .i64 (fun n53 => V.asSl (rd50 3) T_api_Expr (fun es54 => bif (decide ((m0_5.length : Int) >= (40 : Int))) then (if (((0 : Int) <= m0_1) ∧ (m0_1 < (es47.length : Int))) then (V.asInt (List.getD (List.getD es47 (Int.toNat m0_1) []) 3 V.undef) .i64 (fun n56 => some ⟨Out.pan (V.iface T_decl_given (V.agg [V.int .i64 n56, V.int .i64 (2 : Int)])), [Blk.cells T_decl_reader [V.sl .no T_api_Token es47, V.int .i64 n48, V.sl (Tok.row 0) T_api_Pair m0_2, V.sl (Tok.row 1) T_api_Pair m0_3, V.sl (Tok.row 2) T_decl_Keep m0_4, V.sl (Tok.row 3) T_decl_Break m0_5, V.sl (Tok.row 4) T_decl_Watch m0_6] false], none⟩)) else none) else (if (((List.length m0_5) + (List.length [[V.int .i64 n51, V.str s52, V.int .i64 n53, V.sl .no T_api_Expr es54]])) <= most) then (den Sp decl_reader_sign.id [V.ref 0 0, V.str (ByteArray.mk #[59])] [Blk.cells T_decl_reader [V.sl .no T_api_Token es47, V.int .i64 n48] false] none).bind (fun r57 => Blk.asCells (List.getD (Res.bl r57) 0 (Blk.cells T_n0 [] true)) T_decl_reader 2 (fun rd58 => V.asSl (rd58 0) T_api_Token (fun es59 => V.asInt (rd58 1) .i64 (fun n60 => Res.onOut r57 (fun v61 => V.asTup v61 0 (fun rd62 => some ⟨Out.ret (V.tup []), [Blk.cells T_decl_reader [V.sl .no T_api_Token es59, V.int .i64 n60, V.sl (Tok.row 0) T_api_Pair m0_2, V.sl (Tok.row 1) T_api_Pair m0_3, V.sl (Tok.row 2) T_decl_Keep m0_4, V.sl (Tok.row 3) T_decl_Break (m0_5 ++ [[V.int .i64 n51, V.str s52, V.int .i64 n53, V.sl .no T_api_Expr es54]]), V.sl (Tok.row 4) T_decl_Watch m0_6] false], none⟩)) (fun v61 => V.asIface v61 T_decl_given (fun w62 => V.asAgg w62 2 (fun rd63 => V.asInt (rd63 0) .i64 (fun n64 => V.asInt (rd63 1) .i64 (fun n65 => some ⟨Out.pan (V.iface T_decl_given (V.agg [V.int .i64 n64, V.int .i64 n65])), [Blk.cells T_decl_reader [V.sl .no T_api_Token es59, V.int .i64 n60, V.sl (Tok.row 0) T_api_Pair m0_2, V.sl (Tok.row 1) T_api_Pair m0_3, V.sl (Tok.row 2) T_decl_Keep m0_4, V.sl (Tok.row 3) T_decl_Break (m0_5 ++ [[V.int .i64 n51, V.str s52, V.int .i64 n53, V.sl .no T_api_Expr es54]]), V.sl (Tok.row 4) T_decl_Watch m0_6] false], none⟩))))))))) else none))))))) (fun v49 => V.asIface v49 T_decl_given (fun w50 => V.asAgg w50 2 (fun rd51 => V.asInt (rd51 0) .i64 (fun n52 => V.asInt (rd51 1) .i64 (fun n53 => some ⟨Out.pan (V.iface T_decl_given (V.agg [V.int .i64 n52, V.int .i64 n53])), [Blk.cells T_decl_reader [V.sl .no T_api_Token es47, V.int .i64 n48, V.sl (Tok.row 0) T_api_Pair m0_2, V.sl (Tok.row 1) T_api_Pair m0_3, V.sl (Tok.row 2) T_decl_Keep m0_4, V.sl (Tok.row 3) T_decl_Break m0_5, V.sl (Tok.row 4) T_decl_Watch m0_6] false], none⟩))))))))))) (fun v41 => V.asIface v41 T_decl_given (fun w42 => V.asAgg w42 2 (fun rd43 => V.asInt (rd43 0) .i64 (fun n44 => V.asInt (rd43 1) .i64 (fun n45 => some ⟨Out.pan (V.iface T_decl_given (V.agg [V.int .i64 n44, V.int .i64 n45])), [Blk.cells T_decl_reader [V.sl .no T_api_Token es39, V.int .i64 n40, V.sl (Tok.row 0) T_api_Pair m0_2, V.sl (Tok.row 1) T_api_Pair m0_3, V.sl (Tok.row 2) T_decl_Keep m0_4, V.sl (Tok.row 3) T_decl_Break m0_5, V.sl (Tok.row 4) T_decl_Watch m0_6] false], none⟩))))))))) else (den Sp decl_reader_word.id [V.ref 0 0, V.str (ByteArray.mk #[119, 97, 116, 99, 104])] [Blk.cells T_decl_reader [V.sl .no T_api_Token es32, V.int .i64 n33] false] none).bind (fun r37 => Blk.asCells (List.getD (Res.bl r37) 0 (Blk.cells T_n0 [] true)) T_decl_reader 2 (fun rd38 => V.asSl (rd38 0) T_api_Token (fun es39 => V.asInt (rd38 1) .i64 (fun n40 => Res.onRet r37 (fun v41 => V.asBool v41 (fun b42 => bif b42 then (den Sp decl_reader_full.id [V.ref 0 0, V.int .i64 m0_1, V.int .i64 (m0_6.length : Int), V.int .i64 (40 : Int)] [Blk.cells T_decl_reader [V.sl .no T_api_Token es39, V.int .i64 n40] false] none).bind (fun r44 => Blk.asCells (List.getD (Res.bl r44) 0 (Blk.cells T_n0 [] true)) T_decl_reader 2 (fun rd45 => V.asSl (rd45 0) T_api_Token (fun es46 => V.asInt (rd45 1) .i64 (fun n47 => Res.onOut r44 (fun v48 => V.asTup v48 0 (fun rd49 => (den Sp decl_reader_side.id [V.ref 0 0] [Blk.cells T_decl_reader [V.sl .no T_api_Token es46, V.int .i64 (IntKind.wrap .i64 (n47 + (1 : Int)))] false] none).bind (fun r52 => Blk.asCells (List.getD (Res.bl r52) 0 (Blk.cells T_n0 [] true)) T_decl_reader 2 (fun rd53 => V.asSl (rd53 0) T_api_Token (fun es54 => V.asInt (rd53 1) .i64 (fun n55 => Res.onOut r52 (fun v56 => V.asInt v56 .i64 (fun n57 => (den Sp decl_reader_name.id [V.ref 0 0] [Blk.cells T_decl_reader [V.sl .no T_api_Token es54, V.int .i64 n55] false] none).bind (fun r59 => Blk.asCells (List.getD (Res.bl r59) 0 (Blk.cells T_n0 [] true)) T_decl_reader 2 (fun rd60 => V.asSl (rd60 0) T_api_Token (fun es61 => V.asInt (rd60 1) .i64 (fun n62 => Res.onOut r59 (fun v63 => V.asStr v63 (fun s64 => (den Sp decl_reader_name.id [V.ref 0 0] [Blk.cells T_decl_reader [V.sl .no T_api_Token es61, V.int .i64 n62] false] none).bind (fun r66 => Blk.asCells (List.getD (Res.bl r66) 0 (Blk.cells T_n0 [] true)) T_decl_reader 2 (fun rd67 => V.asSl (rd67 0) T_api_Token (fun es68 => V.asInt (rd67 1) .i64 (fun n69 => Res.onOut r66 (fun v70 => V.asStr v70 (fun s71 => bif ((beqV (V.sl (Tok.row 4) T_decl_Watch m0_6) (V.sl (Tok.row 4) T_decl_Watch m0_6)) && true) then (bif (decide ((m0_6.length : Int) >= (40 : Int))) then (if (((0 : Int) <= m0_1) ∧ (m0_1 < (es68.length : Int))) then (V.asInt (List.getD (List.getD es68 (Int.toNat m0_1) []) 3 V.undef) .i64 (fun n72 => some ⟨Out.pan (V.iface T_decl_given (V.agg [V.int .i64 n72, V.int .i64 (2 : Int)])), [Blk.cells T_decl_reader [V.sl .no T_api_Token es68, V.int .i64 n69, V.sl (Tok.row 0) T_api_Pair m0_2, V.sl (Tok.row 1) T_api_Pair m0_3, V.sl (Tok.row 2) T_decl_Keep m0_4, V.sl (Tok.row 3) T_decl_Break m0_5, V.sl (Tok.row 4) T_decl_Watch m0_6] false], none⟩)) else none) else (if (((List.length m0_6) + (List.length [[V.int .i64 n57, V.str s64, V.str s71]])) <= most) then (den Sp decl_reader_sign.id [V.ref 0 0, V.str (ByteArray.mk #[59])] [Blk.cells T_decl_reader [V.sl .no T_api_Token es68, V.int .i64 n69] false] none).bind (fun r73 => Blk.asCells (List.getD (Res.bl r73) 0 (Blk.cells T_n0 [] true)) T_decl_reader 2 (fun rd74 => V.asSl (rd74 0) T_api_Token (fun es75 => V.asInt (rd74 1) .i64 (fun n76 => Res.onOut r73 (fun v77 => V.asTup v77 0 (fun rd78 => some ⟨Out.ret (V.tup []), [Blk.cells T_decl_reader [V.sl .no T_api_Token es75, V.int .i64 n76, V.sl (Tok.row 0) T_api_Pair m0_2, V.sl (Tok.row 1) T_api_Pair m0_3, V.sl (Tok.row 2) T_decl_Keep m0_4, V.sl (Tok.row 3) T_decl_Break m0_5, V.sl (Tok.row 4) T_decl_Watch (m0_6 ++ [[V.int .i64 n57, V.str s64, V.str s71]])] false], none⟩)) (fun v77 => V.asIface v77 T_decl_given (fun w78 => V.asAgg w78 2 (fun rd79 => V.asInt (rd79 0) .i64 (fun n80 => V.asInt (rd79 1) .i64 (fun n81 => some ⟨Out.pan (V.iface T_decl_given (V.agg [V.int .i64 n80, V.int .i64 n81])), [Blk.cells T_decl_reader [V.sl .no T_api_Token es75, V.int .i64 n76, V.sl (Tok.row 0) T_api_Pair m0_2, V.sl (Tok.row 1) T_api_Pair m0_3, V.sl (Tok.row 2) T_decl_Keep m0_4, V.sl (Tok.row 3) T_decl_Break m0_5, V.sl (Tok.row 4) T_decl_Watch (m0_6 ++ [[V.int .i64 n57, V.str s64, V.str s71]])] false], none⟩))))))))) else none)) else none)) (fun v70 => V.asIface v70 T_decl_given (fun w71 => V.asAgg w71 2 (fun rd72 => V.asInt (rd72 0) .i64 (fun n73 => V.asInt (rd72 1) .i64 (fun n74 => some ⟨Out.pan (V.iface T_decl_given (V.agg [V.int .i64 n73, V.int .i64 n74])), [Blk.cells T_decl_reader [V.sl .no T_api_Token es68, V.int .i64 n69, V.sl (Tok.row 0) T_api_Pair m0_2, V.sl (Tok.row 1) T_api_Pair m0_3, V.sl (Tok.row 2) T_decl_Keep m0_4, V.sl (Tok.row 3) T_decl_Break m0_5, V.sl (Tok.row 4) T_decl_Watch m0_6] false], none⟩))))))))))) (fun v63 => V.asIface v63 T_decl_given (fun w64 => V.asAgg w64 2 (fun rd65 => V.asInt (rd65 0) .i64 (fun n66 => V.asInt (rd65 1) .i64 (fun n67 => some ⟨Out.pan (V.iface T_decl_given (V.agg [V.int .i64 n66, V.int .i64 n67])), [Blk.cells T_decl_reader [V.sl .no T_api_Token es61, V.int .i64 n62, V.sl (Tok.row 0) T_api_Pair m0_2, V.sl (Tok.row 1) T_api_Pair m0_3, V.sl (Tok.row 2) T_decl_Keep m0_4, V.sl (Tok.row 3) T_decl_Break m0_5, V.sl (Tok.row 4) T_decl_Watch m0_6] false], none⟩))))))))))) (fun v56 => V.asIface v56 T_decl_given (fun w57 => V.asAgg w57 2 (fun rd58 => V.asInt (rd58 0) .i64 (fun n59 => V.asInt (rd58 1) .i64 (fun n60 => some ⟨Out.pan (V.iface T_decl_given (V.agg [V.int .i64 n59, V.int .i64 n60])), [Blk.cells T_decl_reader [V.sl .no T_api_Token es54, V.int .i64 n55, V.sl (Tok.row 0) T_api_Pair m0_2, V.sl (Tok.row 1) T_api_Pair m0_3, V.sl (Tok.row 2) T_decl_Keep m0_4, V.sl (Tok.row 3) T_decl_Break m0_5, V.sl (Tok.row 4) T_decl_Watch m0_6] false], none⟩))))))))))) (fun v48 => V.asIface v48 T_decl_given (fun w49 => V.asAgg w49 2 (fun rd50 => V.asInt (rd50 0) .i64 (fun n51 => V.asInt (rd50 1) .i64 (fun n52 => some ⟨Out.pan (V.iface T_decl_given (V.agg [V.int .i64 n51, V.int .i64 n52])), [Blk.cells T_decl_reader [V.sl .no T_api_Token es46, V.int .i64 n47, V.sl (Tok.row 0) T_api_Pair m0_2, V.sl (Tok.row 1) T_api_Pair m0_3, V.sl (Tok.row 2) T_decl_Keep m0_4, V.sl (Tok.row 3) T_decl_Break m0_5, V.sl (Tok.row 4) T_decl_Watch m0_6] false], none⟩))))))))) else (den Sp decl_reader_fail.id [V.ref 0 0, V.int .i64 (30 : Int)] [Blk.cells T_decl_reader [V.sl .no T_api_Token es39, V.int .i64 n40] false] none).bind (fun r44 => Blk.asCells (List.getD (Res.bl r44) 0 (Blk.cells T_n0 [] true)) T_decl_reader 2 (fun rd45 => V.asSl (rd45 0) T_api_Token (fun es46 => V.asInt (rd45 1) .i64 (fun n47 => Res.onOut r44 (fun v48 => V.asTup v48 0 (fun rd49 => (den Sp decl_reader_sign.id [V.ref 0 0, V.str (ByteArray.mk #[59])] [Blk.cells T_decl_reader [V.sl .no T_api_Token es46, V.int .i64 n47] false] none).bind (fun r51 => Blk.asCells (List.getD (Res.bl r51) 0 (Blk.cells T_n0 [] true)) T_decl_reader 2 (fun rd52 => V.asSl (rd52 0) T_api_Token (fun es53 => V.asInt (rd52 1) .i64 (fun n54 => Res.onOut r51 (fun v55 => V.asTup v55 0 (fun rd56 => some ⟨Out.ret (V.tup []), [Blk.cells T_decl_reader [V.sl .no T_api_Token es53, V.int .i64 n54, V.sl (Tok.row 0) T_api_Pair m0_2, V.sl (Tok.row 1) T_api_Pair m0_3, V.sl (Tok.row 2) T_decl_Keep m0_4, V.sl (Tok.row 3) T_decl_Break m0_5, V.sl (Tok.row 4) T_decl_Watch m0_6] false], none⟩)) (fun v55 => V.asIface v55 T_decl_given (fun w56 => V.asAgg w56 2 (fun rd57 => V.asInt (rd57 0) .i64 (fun n58 => V.asInt (rd57 1) .i64 (fun n59 => some ⟨Out.pan (V.iface T_decl_given (V.agg [V.int .i64 n58, V.int .i64 n59])), [Blk.cells T_decl_reader [V.sl .no T_api_Token es53, V.int .i64 n54, V.sl (Tok.row 0) T_api_Pair m0_2, V.sl (Tok.row 1) T_api_Pair m0_3, V.sl (Tok.row 2) T_decl_Keep m0_4, V.sl (Tok.row 3) T_decl_Break m0_5, V.sl (Tok.row 4) T_decl_Watch m0_6] false], none⟩))))))))))) (fun v48 => V.asIface v48 T_decl_given (fun w49 => V.asAgg w49 2 (fun rd50 => V.asInt (rd50 0) .i64 (fun n51 => V.asInt (rd50 1) .i64 (fun n52 => some ⟨Out.pan (V.iface T_decl_given (V.agg [V.int .i64 n51, V.int .i64 n52])), [Blk.cells T_decl_reader [V.sl .no T_api_Token es46, V.int .i64 n47, V.sl (Tok.row 0) T_api_Pair m0_2, V.sl (Tok.row 1) T_api_Pair m0_3, V.sl (Tok.row 2) T_decl_Keep m0_4, V.sl (Tok.row 3) T_decl_Break m0_5, V.sl (Tok.row 4) T_decl_Watch m0_6] false], none⟩))))))))))))))))))))))))))))))))))))))) := (den_eq ..).trans (by kernel_rfl)
end decl_reader_line
namespace decl_Parse_1
theorem eq0 (c0_0 c0_1 c0_2 c0_3 c0_4 : List (List V)) (c1_0 c2_0 : Int) : den Sp id [V.ref 0 0, V.ref 1 0, V.ref 2 0] [Blk.cells T_decl_File [V.sl .no T_api_Pair c0_0, V.sl .no T_api_Pair c0_1, V.sl .no T_decl_Keep c0_2, V.sl .no T_decl_Break c0_3, V.sl .no T_decl_Watch c0_4] false, Blk.cells T_int [V.int .i64 c1_0] false, Blk.cells T_api_Errno [V.int .i64 c2_0] false] (some none) =
  (some ⟨Out.ret (V.tup []), [Blk.cells T_decl_File [V.sl .no T_api_Pair c0_0, V.sl .no T_api_Pair c0_1, V.sl .no T_decl_Keep c0_2, V.sl .no T_decl_Break c0_3, V.sl .no T_decl_Watch c0_4] false, Blk.cells T_int [V.int .i64 c1_0] false, Blk.cells T_api_Errno [V.int .i64 c2_0] false], some none⟩) := (den_eq ..).trans (by kernel_rfl)
end decl_Parse_1
namespace decl_Parse_1
theorem eq1 (c0_0 c0_1 c0_2 c0_3 c0_4 : List (List V)) (c1_0 c2_0 w_0 w_1 : Int) : den Sp id [V.ref 0 0, V.ref 1 0, V.ref 2 0] [Blk.cells T_decl_File [V.sl .no T_api_Pair c0_0, V.sl .no T_api_Pair c0_1, V.sl .no T_decl_Keep c0_2, V.sl .no T_decl_Break c0_3, V.sl .no T_decl_Watch c0_4] false, Blk.cells T_int [V.int .i64 c1_0] false, Blk.cells T_api_Errno [V.int .i64 c2_0] false] (some (some (V.iface T_decl_given (V.agg [V.int .i64 w_0, V.int .i64 w_1])))) =
  (some ⟨Out.ret (V.tup []), [Blk.cells T_decl_File [V.sl .no T_api_Pair [], V.sl .no T_api_Pair [], V.sl .no T_decl_Keep [], V.sl .no T_decl_Break [], V.sl .no T_decl_Watch []] false, Blk.cells T_int [V.int .i64 w_0] false, Blk.cells T_api_Errno [V.int .i64 w_1] false], some none⟩) := (den_eq ..).trans (by kernel_rfl)
end decl_Parse_1
namespace decl_Parse
noncomputable abbrev e (p : List Nat) := ev Sp (den Sp) id Tryz.f15.ntmps (cAt (bodyOf Tryz.f15) p)
noncomputable abbrev cn (n0 : List Nat) := canon Sp id n0
noncomputable abbrev K : K := kFin Sp (den Sp) (Sp.oo id) Tryz.f15 0
noncomputable def L1_1_1_1_1_0_0 (i0 i1 : Int) (l2 : List (List V)) (i3 : Int) (l4 l5 l6 l7 l8 : List (List V)) : Option Res := LP (e [1, 1, 1, 1, 1, 0, 0, 0]) (cn [1002, 1003, 1004, 1021]) (kBlk 0 (kSeq (e [1, 1, 1, 1, 1, 1]) (K))) ([(2, (V.ref 1002 0)), (3, (V.ref 1003 0)), (4, (V.ref 1004 0)), (6, (V.ref 1021 0))], ⟨[(1002, (Blk.cells T_decl_File [V.sl (Tok.row 0) T_api_Pair [], V.sl (Tok.row 1) T_api_Pair [], V.sl (Tok.row 2) T_decl_Keep [], V.sl (Tok.row 3) T_decl_Break [], V.sl (Tok.row 4) T_decl_Watch []] false)), (1003, (Blk.cells T_int [V.int .i64 i0] false)), (1004, (Blk.cells T_api_Errno [V.int .i64 i1] false)), (1021, (Blk.cells T_decl_reader [V.sl .no T_api_Token l2, V.int .i64 i3, V.sl (Tok.row 5) T_api_Pair l4, V.sl (Tok.row 6) T_api_Pair l5, V.sl (Tok.row 7) T_decl_Keep l6, V.sl (Tok.row 8) T_decl_Break l7, V.sl (Tok.row 9) T_decl_Watch l8] false))], [0, 1, 2, 3, 4, 5, 6, 7, 8, 9], [], [(41, [V.ref 1002 0, V.ref 1003 0, V.ref 1004 0])], none⟩)
theorem L1_1_1_1_1_0_0_eq (i0 i1 : Int) (l2 : List (List V)) (i3 : Int) (l4 l5 l6 l7 l8 : List (List V)) : L1_1_1_1_1_0_0 i0 i1 l2 i3 l4 l5 l6 l7 l8 =
  (if (((0 : Int) <= i3) ∧ (i3 < (l2.length : Int))) then (V.asInt (List.getD (List.getD l2 (Int.toNat i3) []) 0 V.undef) .i64 (fun n22 => bif (n22 != (0 : Int)) then (den Sp decl_reader_line.id [V.ref 0 0] [Blk.cells T_decl_reader [V.sl .no T_api_Token l2, V.int .i64 i3, V.sl (Tok.row 0) T_api_Pair l4, V.sl (Tok.row 1) T_api_Pair l5, V.sl (Tok.row 2) T_decl_Keep l6, V.sl (Tok.row 3) T_decl_Break l7, V.sl (Tok.row 4) T_decl_Watch l8] false] none).bind (fun r24 => Blk.asCells (List.getD (Res.bl r24) 0 (Blk.cells T_n0 [] true)) T_decl_reader 7 (fun rd25 => V.asSl (rd25 0) T_api_Token (fun es26 => V.asInt (rd25 1) .i64 (fun n27 => V.asSlR (rd25 2) 0 T_api_Pair (fun es28 => V.asSlR (rd25 3) 1 T_api_Pair (fun es29 => V.asSlR (rd25 4) 2 T_decl_Keep (fun es30 => V.asSlR (rd25 5) 3 T_decl_Break (fun es31 => V.asSlR (rd25 6) 4 T_decl_Watch (fun es32 => Res.onOut r24 (fun v33 => V.asTup v33 0 (fun rd34 => L1_1_1_1_1_0_0 i0 i1 es26 n27 es28 es29 es30 es31 es32)) (fun v33 => V.asIface v33 T_decl_given (fun w34 => V.asAgg w34 2 (fun rd35 => V.asInt (rd35 0) .i64 (fun n36 => V.asInt (rd35 1) .i64 (fun n37 => (den Sp decl_Parse_1.id [V.ref 0 0, V.ref 1 0, V.ref 2 0] [Blk.cells T_decl_File [V.sl .no T_api_Pair [], V.sl .no T_api_Pair [], V.sl .no T_decl_Keep [], V.sl .no T_decl_Break [], V.sl .no T_decl_Watch []] false, Blk.cells T_int [V.int .i64 i0] false, Blk.cells T_api_Errno [V.int .i64 i1] false] (some (some (V.iface T_decl_given (V.agg [V.int .i64 n36, V.int .i64 n37]))))).bind (fun r38 => Blk.asCells (List.getD (Res.bl r38) 0 (Blk.cells T_n0 [] true)) T_decl_File 5 (fun rd39 => V.asSl (rd39 0) T_api_Pair (fun es40 => V.asSl (rd39 1) T_api_Pair (fun es41 => V.asSl (rd39 2) T_decl_Keep (fun es42 => V.asSl (rd39 3) T_decl_Break (fun es43 => V.asSl (rd39 4) T_decl_Watch (fun es44 => Blk.asCells (List.getD (Res.bl r38) 1 (Blk.cells T_n0 [] true)) T_int 1 (fun rd45 => V.asInt (rd45 0) .i64 (fun n46 => Blk.asCells (List.getD (Res.bl r38) 2 (Blk.cells T_n0 [] true)) T_api_Errno 1 (fun rd47 => V.asInt (rd47 0) .i64 (fun n48 => Res.onRet r38 (fun v49 => V.asTup v49 0 (fun rd50 => Res.onPn r38 (some ⟨Out.ret (V.tup [V.agg [V.sl .no T_api_Pair es40, V.sl .no T_api_Pair es41, V.sl .no T_decl_Keep es42, V.sl .no T_decl_Break es43, V.sl .no T_decl_Watch es44], V.int .i64 n46, V.int .i64 n48]), [], none⟩) (fun v51 => some ⟨Out.pan (V.iface T_decl_given (V.agg [V.int .i64 n36, V.int .i64 n37])), [], none⟩)))))))))))))))))))))))))))) else (den Sp decl_Parse_1.id [V.ref 0 0, V.ref 1 0, V.ref 2 0] [Blk.cells T_decl_File [V.sl .no T_api_Pair l4, V.sl .no T_api_Pair l5, V.sl .no T_decl_Keep l6, V.sl .no T_decl_Break l7, V.sl .no T_decl_Watch l8] false, Blk.cells T_int [V.int .i64 (0 : Int)] false, Blk.cells T_api_Errno [V.int .i64 (0 : Int)] false] (some none)).bind (fun r24 => Blk.asCells (List.getD (Res.bl r24) 0 (Blk.cells T_n0 [] true)) T_decl_File 5 (fun rd25 => V.asSl (rd25 0) T_api_Pair (fun es26 => V.asSl (rd25 1) T_api_Pair (fun es27 => V.asSl (rd25 2) T_decl_Keep (fun es28 => V.asSl (rd25 3) T_decl_Break (fun es29 => V.asSl (rd25 4) T_decl_Watch (fun es30 => Blk.asCells (List.getD (Res.bl r24) 1 (Blk.cells T_n0 [] true)) T_int 1 (fun rd31 => V.asInt (rd31 0) .i64 (fun n32 => Blk.asCells (List.getD (Res.bl r24) 2 (Blk.cells T_n0 [] true)) T_api_Errno 1 (fun rd33 => V.asInt (rd33 0) .i64 (fun n34 => Res.onRet r24 (fun v35 => V.asTup v35 0 (fun rd36 => Res.onPn r24 (some ⟨Out.ret (V.tup [V.agg [V.sl .no T_api_Pair es26, V.sl .no T_api_Pair es27, V.sl .no T_decl_Keep es28, V.sl .no T_decl_Break es29, V.sl .no T_decl_Watch es30], V.int .i64 n32, V.int .i64 n34]), [], none⟩) (fun v37 => some ⟨Out.ret (V.tup [V.agg [V.sl .no T_api_Pair es26, V.sl .no T_api_Pair es27, V.sl .no T_decl_Keep es28, V.sl .no T_decl_Break es29, V.sl .no T_decl_Watch es30], V.int .i64 n32, V.int .i64 n34]), [], none⟩)))))))))))))))) else none) := (LP_eq ..).trans (by kernel_rfl)
theorem eq (a0 : ByteArray) : den Sp id [V.str a0] [] none =
  (den Sp lex_Scan.id [V.str a0] [] none).bind (fun r3 => Res.onRet r3 (fun v4 => V.asTup v4 3 (fun rd5 => V.asSl (rd5 0) T_api_Token (fun es6 => V.asInt (rd5 1) .i64 (fun n7 => V.asInt (rd5 2) .i64 (fun n8 => bif (n8 != (0 : Int)) then (some ⟨Out.ret (V.tup [V.agg [V.sl .no T_api_Pair [], V.sl .no T_api_Pair [], V.sl .no T_decl_Keep [], V.sl .no T_decl_Break [], V.sl .no T_decl_Watch []], V.int .i64 n7, V.int .i64 n8]), [], none⟩) else (L1_1_1_1_1_0_0 n7 n8 es6 (0 : Int) [] [] [] [] []))))))) := (den_eq ..).trans (by kernel_rfl)
end decl_Parse
end Go.Proofs.YtmhnmelaodhemaaGreatDoor
namespace Go.Proofs.YtmhnmelaodhemaaGreatDoor
open Go Go.Proofs.Ab Go.Proofs.Px
attribute [local congr] bind_h asInt_h asBool_h asStr_h asSl_h asSlR_h asAgg_h asTup_h asIface_h asCells_h onRet_h onOut_h cond_h
theorem stopR_mk (l : List Tk) (k : Nat) : stopR l k = andR (sideR l k) fun s k => andR (nameR l k) fun p k => andR (intR l k) fun n k => andR (whenR l k) fun w k => .ok (⟨s, p, n, w⟩, k) := rfl
theorem Pai_list (x : Pai) : [V.str (B x.procA), V.str (B x.procB), V.str (B x.varA), V.str (B x.varB)] = x.v := rfl
theorem Bk_list (x : Bk) : [V.int .i64 x.side, V.str (B x.prc), V.int .i64 x.mark, V.sl .no T_api_Expr (x.whn.map Ex.v)] = x.v := rfl
theorem lb : (∀ (x : Bk) (k : (Nat -> V) -> Option Res), V.asAgg (.agg x.v) 4 k = k (fun j => x.v.getD j .undef)) ∧ (∀ (x : Pai) (k : (Nat -> V) -> Option Res), V.asAgg (.agg x.v) 4 k = k (fun j => x.v.getD j .undef)) ∧
 (∀ x : Pai, x.v.getD 0 .undef = .str (B x.procA)) ∧ (∀ x : Pai, x.v.getD 1 .undef = .str (B x.procB)) ∧ (∀ x : Pai, x.v.getD 2 .undef = .str (B x.varA)) ∧ (∀ x : Pai, x.v.getD 3 .undef = .str (B x.varB)) ∧
 (∀ x : Bk, x.v.getD 0 .undef = .int .i64 x.side) ∧ (∀ x : Bk, x.v.getD 1 .undef = .str (B x.prc)) ∧ (∀ x : Bk, x.v.getD 2 .undef = .int .i64 x.mark) ∧ (∀ x : Bk, x.v.getD 3 .undef = .sl .no T_api_Expr (x.whn.map Ex.v)) :=
 ⟨Bk.asAgg_v, Pai.asAgg_v, Pai.v_0, Pai.v_1, Pai.v_2, Pai.v_3, Bk.v_0, Bk.v_1, Bk.v_2, Bk.v_3⟩
theorem rds_err {l : List Tk} (hl : Ended l) : ∀ m k : Nat, l.length - k <= m -> k < l.length -> (∀ d e, oneW l d k = .error e -> e.2 ≠ 0) ∧ (∀ n d e, tightW l n d k = .error e -> e.2 ≠ 0) ∧ (∀ n d p y e, loopW l n d p y k = .error e -> e.2 ≠ 0) := by
 intro m
 induction m with
 | zero => intro k h1 h2; omega
 | succ m ih =>
  intro k hm hk
  have part : ∀ {d : Int} {k : Nat} {r : Rd} {e : Int × Int}, (∀ e, r = .error e -> e.2 ≠ 0) -> partR l d k r = .error e -> e.2 ≠ 0 := fun hr h => by
   unfold partR at h
   split at h
   ·cases h; simp
   ·split at h
    ·cases h; simp
    ·exact hr _ h
  have want : ∀ {s : List UInt8} {r : Rd} {f : Ex -> Ex} {e : Int × Int}, (∀ e, r = .error e -> e.2 ≠ 0) -> wantR l s r f = .error e -> e.2 ≠ 0 := fun hr h => by
   unfold wantR at h
   split at h
   ·rename_i e0; cases h; exact hr _ rfl
   ·split at h
    ·cases h
    ·cases h; simp
  have one : ∀ d e, oneW l d k = .error e -> e.2 ≠ 0 := by
   intro d e h
   rw [oneW, dif_pos hk] at h
   split at h
   ·rename_i c
    have hk1 : k + 1 < l.length := by rcases c with c | c <;> exact hl.isT hk c
    refine part (fun e h => ?_) h
    split at h
    ·rename_i e1 h1; cases h; exact (ih (k + 1) (by omega) hk1).1 _ _ h1
    ·cases h
   split at h
   ·rename_i c
    have hk1 := hl.isT hk c
    exact want (fun e h => part (fun e h => (ih (k + 1) (by omega) hk1).2.1 _ _ _ h) h) h
   split at h
   ·cases h
   split at h
   ·cases h
   split at h
   ·cases h
   split at h
   ·cases h; simp
   have hk1 : k + 1 < l.length := hl.next hk (by omega)
   split at h
   ·rename_i c
    have hk2 := hl.isT hk1 c
    exact want (fun e h => part (fun e h => (ih (k + 2) (by omega) hk2).2.1 _ _ _ h) h) h
   ·cases h
  have loop : ∀ n d p y e, loopW l n d p y k = .error e -> e.2 ≠ 0 := by
   intro n d p y e h
   rw [loopW, dif_pos hk] at h
   split at h
   ·cases h
   ·rename_i c
    have hk1 : k + 1 < l.length := hl.next hk (by
     intro h0; apply c; left; unfold signT; rw [if_neg (by omega)])
    split at h
    ·rename_i e1 h1; cases h; exact (ih (k + 1) (by omega) hk1).2.1 _ _ _ h1
    ·rename_i z i hz
     have h1 := tight_goes hl hk1 hz
     rw [dif_pos (by omega)] at h
     exact (ih i (by omega) h1.2).2.2 _ _ _ _ _ h
  refine ⟨one, fun n d e h => ?_, loop⟩
  rw [tightW] at h
  split at h
  ·rename_i e1 h1; cases h; exact one _ _ h1
  ·rename_i y i hy
   have h1 := one_goes hl hk hy
   rw [dif_pos ⟨h1.1, hk⟩] at h
   exact (ih i (by omega) h1.2).2.2 _ _ _ _ _ h
theorem rd_err {l : List Tk} (hl : Ended l) {k : Nat} (hk : k < l.length) {e : Int × Int} (h : partR l 1 k (tightW l 1 1 k) = .error e) : e.2 ≠ 0 := by
 unfold partR at h
 split at h
 ·cases h; simp
 ·split at h
  ·cases h; simp
  ·exact (rds_err hl _ k (Nat.le_refl _) hk).2.1 _ _ _ h
section
variable {l : List Tk} (hl : Ended l) (hn : l.length <= 100000)
include hl hn
theorem whenR_step {k : Nat} (hk : k < l.length) {x : List Ex} {j : Nat} (h : whenR l k = .ok (x, j)) : k <= j ∧ j < l.length := by
 unfold whenR at h
 split at h
 ·rename_i c
  have hk1 := hl.next hk (by rw [(isW_kind c).1]; decide)
  obtain ⟨y, i, h1, h2⟩ := andR_ok h
  have := tight_goes hl hk1 (partR_ok h1)
  cases h2; omega
 ·cases h; omega
theorem stopR_step {k : Nat} (hk : k < l.length) {x : Bk} {j : Nat} (h : stopR l k = .ok (x, j)) : Step l k j := by
 rw [stopR_mk] at h
 obtain ⟨_, _, h1, h⟩ := andR_ok h
 have s1 := (sideR_step hl hk h1).1
 obtain ⟨_, _, h1, h⟩ := andR_ok h
 have s2 := (nameR_step hl s1.end_ h1).1
 obtain ⟨_, _, h1, h⟩ := andR_ok h
 have s3 := (intR_step hl s2.end_ h1).1
 obtain ⟨_, _, h1, h⟩ := andR_ok h
 have s4 := whenR_step hl hn s3.end_ h1
 have := s1.lt
 have := s2.lt
 have := s3.lt
 cases h
 exact ⟨by omega, s4.2⟩
theorem sameR_step {k : Nat} (hk : k < l.length) {x : Pai} {j : Nat} (h : sameR l k = .ok (x, j)) : Step l k j := by
 have hh : ∀ {k : Nat}, k < l.length -> ∀ {x : List UInt8 × List UInt8} {j : Nat}, halfR l k = .ok (x, j) -> Step l k j := by
  intro k hk x j h
  unfold halfR at h
  obtain ⟨_, _, h1, h⟩ := andR_ok h
  have s1 := (nameR_step hl hk h1).1
  obtain ⟨_, _, h1, h⟩ := andR_ok h
  have s2 := (signR_step hl s1.end_ h1).1
  obtain ⟨_, _, h1, h⟩ := andR_ok h
  have s3 := (nameR_step hl s2.end_ h1).1
  obtain ⟨_, _, h1, h⟩ := andR_ok h
  have s4 := (signR_step hl s3.end_ h1).1
  have := s1.lt
  have := s2.lt
  have := s3.lt
  have := s4.lt
  cases h
  exact ⟨by omega, s4.end_⟩
 unfold sameR at h
 obtain ⟨_, _, h1, h⟩ := andR_ok h
 have s1 := hh hk h1
 obtain ⟨_, _, h1, h⟩ := andR_ok h
 have s2 := hh s1.end_ h1
 have := s1.lt
 have := s2.lt
 cases h
 exact ⟨by omega, s2.end_⟩
theorem stop_d (hE : ReadsE syntax_ReadExpr.id l) {k : Nat} (hk : k < l.length) : RdD l (fun b : Bk => .agg b.v) (stopR l k) (den Sp decl_reader_stop.id [.ref 0 0] [rd2 l k] none) := by
 have h1 := side_d hl hn hk
 rw [stopR_mk]
 unfold RdD at *
 cases c1 : sideR l k with
 | error e => rw [c1] at h1; obtain ⟨j, h1⟩ := h1; refine ⟨j, ?_⟩; unfold rd2 givenD at *; rw [decl_reader_stop.eq]; simp only [h1, lz, lx, if_true, if_false, lb]
 | ok r1 =>
 obtain ⟨x1, k1⟩ := r1
 rw [c1] at h1
 have s1 := (sideR_step hl hk c1).1.end_
 have h2 := name_d hl hn s1
 unfold RdD at h2
 simp only [andR] at h1 ⊢
 cases c2 : nameR l k1 with
 | error e => rw [c2] at h2; obtain ⟨j, h2⟩ := h2; refine ⟨j, ?_⟩; unfold rd2 givenD at *; rw [decl_reader_stop.eq]; simp only [h1, h2, lz, lx, if_true, if_false, lb]
 | ok r2 =>
 obtain ⟨x2, k2⟩ := r2
 rw [c2] at h2
 have s2 := (nameR_step hl s1 c2).1.end_
 have hf := fail_d hl hn s2 30
 have r := row_in s2
 have w2 := wr1 (show k2 < 1099511627776 by omega)
 simp only [andR] at h2 ⊢
 unfold intR wrongR
 by_cases c3 : (tk l k2).kind = 2
 ·rw [if_pos c3]
  have c3' : ((tk l k2).kind != 2) = false := by simpa using c3
  simp only [andR]
  have s3 := hl.next s2 (by omega)
  have hw := word_d hl hn s3 [119, 104, 101, 110]
  have w3 := wr1 (show k2 + 1 < 1099511627776 by omega)
  unfold whenR
  by_cases c4 : isW (tk l (k2 + 1)) [119, 104, 101, 110] = true
  ·rw [if_pos c4]
   rw [c4] at hw
   have s4 := hl.next s3 (by rw [(isW_kind c4).1]; decide)
   have hr := hE (k2 + 1 + 1) s4
   unfold readE at hr
   cases c5 : partR l 1 (k2 + 1 + 1) (tightW l 1 1 (k2 + 1 + 1)) with
   | error e =>
    rw [c5] at hr
    have e0 : (e.2 != 0) = true := by
     have := rd_err hl s4 c5
     simpa using this
    refine ⟨k2 + 1 + 1, ?_⟩
    unfold rd2 givenD at *
    rw [decl_reader_stop.eq]
    simp only [h1, h2, hf, hw, hr, c3', e0, w2, w3, if_pos r, Int.toNat_natCast, tok_g s2, tkv_0, tkv_1, tkv_2, tkv_3, lz, lx, if_true, if_false, lb]
   | ok q =>
    obtain ⟨x, j⟩ := q
    rw [c5] at hr
    simp only [andR] at hr ⊢
    unfold rd2 givenD at *
    rw [decl_reader_stop.eq]
    simp only [h1, h2, hf, hw, hr, c3', w2, w3, if_pos r, Int.toNat_natCast, tok_g s2, tkv_0, tkv_1, tkv_2, tkv_3, lz, lx, if_true, if_false, lb]
    rw [Bk.v_mk]; rfl
  ·rw [if_neg c4]
   rw [show isW (tk l (k2 + 1)) [119, 104, 101, 110] = false by simpa using c4] at hw
   simp only [andR]
   unfold rd2 givenD at *
   rw [decl_reader_stop.eq]
   simp only [h1, h2, hf, hw, c3', w2, w3, if_pos r, Int.toNat_natCast, tok_g s2, tkv_0, tkv_1, tkv_2, tkv_3, lz, lx, if_true, if_false, lb]
   rw [Bk.v_mk]; rfl
 ·rw [if_neg c3]
  have c3' : ((tk l k2).kind != 2) = true := by simpa using c3
  refine ⟨k2, ?_⟩
  unfold rd2 givenD at *
  rw [decl_reader_stop.eq]
  simp only [h1, h2, hf, c3', w2, if_pos r, Int.toNat_natCast, tok_g s2, tkv_0, tkv_1, tkv_2, tkv_3, lz, lx, if_true, if_false, lb]
def rd7 (l : List Tk) (k : Nat) (f : Fl) : Blk := .cells T_decl_reader [.sl .no T_api_Token (l.map Tk.v), .int .i64 k, .sl (.row 0) T_api_Pair (f.pairs.map Pai.v), .sl (.row 1) T_api_Pair (f.sames.map Pai.v), .sl (.row 2) T_decl_Keep (f.keeps.map Kp.v), .sl (.row 3) T_decl_Break (f.breaks.map Bk.v), .sl (.row 4) T_decl_Watch (f.watches.map Wt.v)] false
def RdL (l : List Tk) (r : Rf Fl) (o : Option Res) : Prop := match r with
 | .ok (g, j) => o = some ⟨.ret (.tup []), [rd7 l j g], none⟩
 | .error e => ∃ (j : Nat) (g : Fl), o = some ⟨.pan (givenD e), [rd7 l j g], none⟩
theorem app_one {α : Type} (v : α -> List V) (xs : List α) (x : α) : xs.map v ++ [v x] = (xs ++ [x]).map v := by rw [List.map_append]; rfl
theorem line_pair_d (hE : ReadsE syntax_ReadExpr.id l) {k : Nat} (hk : k < l.length) (f : Fl)  (c : isW (tk l k) [112, 97, 105, 114] = true) : RdL l (lineR l f k) (den Sp decl_reader_line.id [.ref 0 0] [rd7 l k f] none) := by
 have hw0 := word_d hl hn hk [112, 97, 105, 114]
 rw [c] at hw0
 unfold lineR itemR
 rw [c, if_pos rfl]
 unfold fullR
 have hf : RdD l (fun _ : Unit => .tup []) (if 40 <= (f.pairs.map Pai.v).length then .error ((tk l k).at_, 2) else .ok ((), k)) (den Sp decl_reader_full.id [.ref 0 0, .int .i64 k, .int .i64 (((f.pairs.map Pai.v).length : Nat) : Int), .int .i64 40] [rd2 l k] none) := full_d hl hn (k := k) k hk (f.pairs.map Pai.v).length 40
 unfold RdD at hf
 have ln : (f.pairs.map Pai.v).length = f.pairs.length := List.length_map ..
 by_cases c4 : 40 <= f.pairs.length
 ·rw [if_pos c4]
  rw [if_pos (by omega)] at hf
  obtain ⟨j, hf⟩ := hf
  refine ⟨j, f, ?_⟩
  (try unfold rd7 at *); (try unfold rd2 at *); (try unfold givenD at *); rw [decl_reader_line.eq]
  simp only [hw0, hf, lz, lx, if_true, if_false, lb, Int.cast_ofNat_Int]
 rw [if_neg c4]
 rw [if_neg (by omega)] at hf
 simp only at hf
 have hF : decide ((((f.pairs.map Pai.v).length : Nat) : Int) >= 40) = false := decide_eq_false (by omega)
 have hM : ∀ (x : List V) (a b : Option Res), (if (f.pairs.map Pai.v).length + List.length [x] <= most then a else b) = a := fun x a b => if_pos (by show _ + 1 <= 1099511627776; omega)
 have w1 := wr1 (show k < 1099511627776 by omega)
 have s0 : k + 1 < l.length := hl.next hk (by rw [(isW_kind c).1]; decide)
 have h1 := name_d hl hn s0
 unfold RdD at h1
 simp only [andR]
 cases c_1 : nameR l (k + 1) with
 | error e => rw [c_1] at h1; obtain ⟨j, h1⟩ := h1; refine ⟨j, f, ?_⟩; (try unfold rd7 at *); (try unfold rd2 at *); (try unfold givenD at *); rw [decl_reader_line.eq]; simp only [hw0, hf, w1, hF, hM, h1, lz, lx, if_true, if_false, lb, Int.cast_ofNat_Int]
 | ok r1 =>
 obtain ⟨x1, k1⟩ := r1
 rw [c_1] at h1
 simp only at h1
 have s1 := (nameR_step hl s0 c_1).1.end_
 have h2 := name_d hl hn s1
 unfold RdD at h2
 simp only [andR]
 cases c_2 : nameR l k1 with
 | error e => rw [c_2] at h2; obtain ⟨j, h2⟩ := h2; refine ⟨j, f, ?_⟩; (try unfold rd7 at *); (try unfold rd2 at *); (try unfold givenD at *); rw [decl_reader_line.eq]; simp only [hw0, hf, w1, hF, hM, h1, h2, lz, lx, if_true, if_false, lb, Int.cast_ofNat_Int]
 | ok r2 =>
 obtain ⟨x2, k2⟩ := r2
 rw [c_2] at h2
 simp only at h2
 have s2 := (nameR_step hl s1 c_2).1.end_
 have hs := sign_d hl hn s2 [59]
 unfold RdD at hs
 simp only [andR]
 have ap := app_one (l := l) hl hn Pai.v f.pairs ⟨x1, x2, [], []⟩
 rw [Pai.v_mk] at ap
 cases c_s : signR l [59] k2 with
 | error e => rw [c_s] at hs; obtain ⟨j, hs⟩ := hs; refine ⟨j, { f with pairs := f.pairs ++ [⟨x1, x2, [], []⟩] }, ?_⟩; (try unfold rd7 at *); (try unfold rd2 at *); (try unfold givenD at *); rw [decl_reader_line.eq]; simp only [hw0, hf, w1, hF, hM, h1, h2, hs, ap, lz, lx, if_true, if_false, lb, Int.cast_ofNat_Int]
 | ok rs =>
 obtain ⟨xs, ks⟩ := rs
 rw [c_s] at hs
 simp only at hs
 unfold RdL
 simp only [andR]
 (try unfold rd7 at *); (try unfold rd2 at *); (try unfold givenD at *); rw [decl_reader_line.eq]
 simp only [hw0, hf, w1, hF, hM, h1, h2, hs, ap, lz, lx, if_true, if_false, lb, Int.cast_ofNat_Int]
theorem line_same_d (hE : ReadsE syntax_ReadExpr.id l) {k : Nat} (hk : k < l.length) (f : Fl) (n0 : isW (tk l k) [112, 97, 105, 114] = false) (c : isW (tk l k) [115, 97, 109, 101] = true) : RdL l (lineR l f k) (den Sp decl_reader_line.id [.ref 0 0] [rd7 l k f] none) := by
 have hw0 := word_d hl hn hk [112, 97, 105, 114]
 rw [n0] at hw0
 have hw1 := word_d hl hn hk [115, 97, 109, 101]
 rw [c] at hw1
 unfold lineR itemR
 rw [n0, if_neg (fun h => Bool.noConfusion h)]
 rw [c, if_pos rfl]
 unfold fullR
 have hf : RdD l (fun _ : Unit => .tup []) (if 40 <= (f.sames.map Pai.v).length then .error ((tk l k).at_, 2) else .ok ((), k)) (den Sp decl_reader_full.id [.ref 0 0, .int .i64 k, .int .i64 (((f.sames.map Pai.v).length : Nat) : Int), .int .i64 40] [rd2 l k] none) := full_d hl hn (k := k) k hk (f.sames.map Pai.v).length 40
 unfold RdD at hf
 have ln : (f.sames.map Pai.v).length = f.sames.length := List.length_map ..
 by_cases c4 : 40 <= f.sames.length
 ·rw [if_pos c4]
  rw [if_pos (by omega)] at hf
  obtain ⟨j, hf⟩ := hf
  refine ⟨j, f, ?_⟩
  (try unfold rd7 at *); (try unfold rd2 at *); (try unfold givenD at *); rw [decl_reader_line.eq]
  simp only [hw0, hw1, hf, lz, lx, if_true, if_false, lb, Int.cast_ofNat_Int]
 rw [if_neg c4]
 rw [if_neg (by omega)] at hf
 simp only at hf
 have hF : decide ((((f.sames.map Pai.v).length : Nat) : Int) >= 40) = false := decide_eq_false (by omega)
 have hM : ∀ (x : List V) (a b : Option Res), (if (f.sames.map Pai.v).length + List.length [x] <= most then a else b) = a := fun x a b => if_pos (by show _ + 1 <= 1099511627776; omega)
 have w1 := wr1 (show k < 1099511627776 by omega)
 have s0 : k + 1 < l.length := hl.next hk (by rw [(isW_kind c).1]; decide)
 have h1 := same_d hl hn s0
 unfold RdD at h1
 simp only [andR]
 cases c_1 : sameR l (k + 1) with
 | error e => rw [c_1] at h1; obtain ⟨j, h1⟩ := h1; refine ⟨j, f, ?_⟩; (try unfold rd7 at *); (try unfold rd2 at *); (try unfold givenD at *); rw [decl_reader_line.eq]; simp only [hw0, hw1, hf, w1, hF, hM, h1, lz, lx, if_true, if_false, lb, Int.cast_ofNat_Int]
 | ok r1 =>
 obtain ⟨x1, k1⟩ := r1
 rw [c_1] at h1
 simp only at h1
 have s1 := (sameR_step hl hn s0 c_1).end_
 have hs := sign_d hl hn s1 [59]
 unfold RdD at hs
 simp only [andR]
 have ap := app_one (l := l) hl hn Pai.v f.sames x1
 have vv := Pai_list x1
 cases c_s : signR l [59] k1 with
 | error e => rw [c_s] at hs; obtain ⟨j, hs⟩ := hs; refine ⟨j, { f with sames := f.sames ++ [x1] }, ?_⟩; (try unfold rd7 at *); (try unfold rd2 at *); (try unfold givenD at *); rw [decl_reader_line.eq]; simp only [hw0, hw1, hf, w1, hF, hM, h1, hs, vv, ap, lz, lx, if_true, if_false, lb, Int.cast_ofNat_Int]
 | ok rs =>
 obtain ⟨xs, ks⟩ := rs
 rw [c_s] at hs
 simp only at hs
 unfold RdL
 simp only [andR]
 (try unfold rd7 at *); (try unfold rd2 at *); (try unfold givenD at *); rw [decl_reader_line.eq]
 simp only [hw0, hw1, hf, w1, hF, hM, h1, hs, vv, ap, lz, lx, if_true, if_false, lb, Int.cast_ofNat_Int]
theorem line_keep_d (hE : ReadsE syntax_ReadExpr.id l) {k : Nat} (hk : k < l.length) (f : Fl) (n0 : isW (tk l k) [112, 97, 105, 114] = false) (n1 : isW (tk l k) [115, 97, 109, 101] = false) (c : isW (tk l k) [107, 101, 101, 112] = true) : RdL l (lineR l f k) (den Sp decl_reader_line.id [.ref 0 0] [rd7 l k f] none) := by
 have hw0 := word_d hl hn hk [112, 97, 105, 114]
 rw [n0] at hw0
 have hw1 := word_d hl hn hk [115, 97, 109, 101]
 rw [n1] at hw1
 have hw2 := word_d hl hn hk [107, 101, 101, 112]
 rw [c] at hw2
 unfold lineR itemR
 rw [n0, if_neg (fun h => Bool.noConfusion h)]
 rw [n1, if_neg (fun h => Bool.noConfusion h)]
 rw [c, if_pos rfl]
 unfold fullR
 have hf : RdD l (fun _ : Unit => .tup []) (if 40 <= (f.keeps.map Kp.v).length then .error ((tk l k).at_, 2) else .ok ((), k)) (den Sp decl_reader_full.id [.ref 0 0, .int .i64 k, .int .i64 (((f.keeps.map Kp.v).length : Nat) : Int), .int .i64 40] [rd2 l k] none) := full_d hl hn (k := k) k hk (f.keeps.map Kp.v).length 40
 unfold RdD at hf
 have ln : (f.keeps.map Kp.v).length = f.keeps.length := List.length_map ..
 by_cases c4 : 40 <= f.keeps.length
 ·rw [if_pos c4]
  rw [if_pos (by omega)] at hf
  obtain ⟨j, hf⟩ := hf
  refine ⟨j, f, ?_⟩
  (try unfold rd7 at *); (try unfold rd2 at *); (try unfold givenD at *); rw [decl_reader_line.eq]
  simp only [hw0, hw1, hw2, hf, lz, lx, if_true, if_false, lb, Int.cast_ofNat_Int]
 rw [if_neg c4]
 rw [if_neg (by omega)] at hf
 simp only at hf
 have hF : decide ((((f.keeps.map Kp.v).length : Nat) : Int) >= 40) = false := decide_eq_false (by omega)
 have hM : ∀ (x : List V) (a b : Option Res), (if (f.keeps.map Kp.v).length + List.length [x] <= most then a else b) = a := fun x a b => if_pos (by show _ + 1 <= 1099511627776; omega)
 have w1 := wr1 (show k < 1099511627776 by omega)
 have s0 : k + 1 < l.length := hl.next hk (by rw [(isW_kind c).1]; decide)
 have h1 := side_d hl hn s0
 unfold RdD at h1
 simp only [keepR, andR]
 cases c_1 : sideR l (k + 1) with
 | error e => rw [c_1] at h1; obtain ⟨j, h1⟩ := h1; refine ⟨j, f, ?_⟩; (try unfold rd7 at *); (try unfold rd2 at *); (try unfold givenD at *); rw [decl_reader_line.eq]; simp only [hw0, hw1, hw2, hf, w1, hF, hM, h1, lz, lx, if_true, if_false, lb, Int.cast_ofNat_Int]
 | ok r1 =>
 obtain ⟨x1, k1⟩ := r1
 rw [c_1] at h1
 simp only at h1
 have s1 := (sideR_step hl s0 c_1).1.end_
 have h2 := name_d hl hn s1
 unfold RdD at h2
 simp only [andR]
 cases c_2 : nameR l k1 with
 | error e => rw [c_2] at h2; obtain ⟨j, h2⟩ := h2; refine ⟨j, f, ?_⟩; (try unfold rd7 at *); (try unfold rd2 at *); (try unfold givenD at *); rw [decl_reader_line.eq]; simp only [hw0, hw1, hw2, hf, w1, hF, hM, h1, h2, lz, lx, if_true, if_false, lb, Int.cast_ofNat_Int]
 | ok r2 =>
 obtain ⟨x2, k2⟩ := r2
 rw [c_2] at h2
 simp only at h2
 have s2 := (nameR_step hl s1 c_2).1.end_
 have h3 := name_d hl hn s2
 unfold RdD at h3
 simp only [andR]
 cases c_3 : nameR l k2 with
 | error e => rw [c_3] at h3; obtain ⟨j, h3⟩ := h3; refine ⟨j, f, ?_⟩; (try unfold rd7 at *); (try unfold rd2 at *); (try unfold givenD at *); rw [decl_reader_line.eq]; simp only [hw0, hw1, hw2, hf, w1, hF, hM, h1, h2, h3, lz, lx, if_true, if_false, lb, Int.cast_ofNat_Int]
 | ok r3 =>
 obtain ⟨x3, k3⟩ := r3
 rw [c_3] at h3
 simp only at h3
 have s3 := (nameR_step hl s2 c_3).1.end_
 have hs := sign_d hl hn s3 [59]
 unfold RdD at hs
 simp only [andR]
 have ap := app_one (l := l) hl hn Kp.v f.keeps ⟨x1, x2, x3⟩
 rw [Kp.v_mk] at ap
 cases c_s : signR l [59] k3 with
 | error e => rw [c_s] at hs; obtain ⟨j, hs⟩ := hs; refine ⟨j, { f with keeps := f.keeps ++ [⟨x1, x2, x3⟩] }, ?_⟩; (try unfold rd7 at *); (try unfold rd2 at *); (try unfold givenD at *); rw [decl_reader_line.eq]; simp only [hw0, hw1, hw2, hf, w1, hF, hM, h1, h2, h3, hs, ap, lz, lx, if_true, if_false, lb, Int.cast_ofNat_Int]
 | ok rs =>
 obtain ⟨xs, ks⟩ := rs
 rw [c_s] at hs
 simp only at hs
 unfold RdL
 simp only [andR]
 (try unfold rd7 at *); (try unfold rd2 at *); (try unfold givenD at *); rw [decl_reader_line.eq]
 simp only [hw0, hw1, hw2, hf, w1, hF, hM, h1, h2, h3, hs, ap, lz, lx, if_true, if_false, lb, Int.cast_ofNat_Int]
theorem line_break_d (hE : ReadsE syntax_ReadExpr.id l) {k : Nat} (hk : k < l.length) (f : Fl) (n0 : isW (tk l k) [112, 97, 105, 114] = false) (n1 : isW (tk l k) [115, 97, 109, 101] = false) (n2 : isW (tk l k) [107, 101, 101, 112] = false) (c : isW (tk l k) [98, 114, 101, 97, 107] = true) : RdL l (lineR l f k) (den Sp decl_reader_line.id [.ref 0 0] [rd7 l k f] none) := by
 have hw0 := word_d hl hn hk [112, 97, 105, 114]
 rw [n0] at hw0
 have hw1 := word_d hl hn hk [115, 97, 109, 101]
 rw [n1] at hw1
 have hw2 := word_d hl hn hk [107, 101, 101, 112]
 rw [n2] at hw2
 have hw3 := word_d hl hn hk [98, 114, 101, 97, 107]
 rw [c] at hw3
 unfold lineR itemR
 rw [n0, if_neg (fun h => Bool.noConfusion h)]
 rw [n1, if_neg (fun h => Bool.noConfusion h)]
 rw [n2, if_neg (fun h => Bool.noConfusion h)]
 rw [c, if_pos rfl]
 unfold fullR
 have hf : RdD l (fun _ : Unit => .tup []) (if 40 <= (f.breaks.map Bk.v).length then .error ((tk l k).at_, 2) else .ok ((), k)) (den Sp decl_reader_full.id [.ref 0 0, .int .i64 k, .int .i64 (((f.breaks.map Bk.v).length : Nat) : Int), .int .i64 40] [rd2 l k] none) := full_d hl hn (k := k) k hk (f.breaks.map Bk.v).length 40
 unfold RdD at hf
 have ln : (f.breaks.map Bk.v).length = f.breaks.length := List.length_map ..
 by_cases c4 : 40 <= f.breaks.length
 ·rw [if_pos c4]
  rw [if_pos (by omega)] at hf
  obtain ⟨j, hf⟩ := hf
  refine ⟨j, f, ?_⟩
  (try unfold rd7 at *); (try unfold rd2 at *); (try unfold givenD at *); rw [decl_reader_line.eq]
  simp only [hw0, hw1, hw2, hw3, hf, lz, lx, if_true, if_false, lb, Int.cast_ofNat_Int]
 rw [if_neg c4]
 rw [if_neg (by omega)] at hf
 simp only at hf
 have hF : decide ((((f.breaks.map Bk.v).length : Nat) : Int) >= 40) = false := decide_eq_false (by omega)
 have hM : ∀ (x : List V) (a b : Option Res), (if (f.breaks.map Bk.v).length + List.length [x] <= most then a else b) = a := fun x a b => if_pos (by show _ + 1 <= 1099511627776; omega)
 have w1 := wr1 (show k < 1099511627776 by omega)
 have s0 : k + 1 < l.length := hl.next hk (by rw [(isW_kind c).1]; decide)
 have h1 := stop_d hl hn hE s0
 unfold RdD at h1
 simp only [andR]
 cases c_1 : stopR l (k + 1) with
 | error e => rw [c_1] at h1; obtain ⟨j, h1⟩ := h1; refine ⟨j, f, ?_⟩; (try unfold rd7 at *); (try unfold rd2 at *); (try unfold givenD at *); rw [decl_reader_line.eq]; simp only [hw0, hw1, hw2, hw3, hf, w1, hF, hM, h1, lz, lx, if_true, if_false, lb, Int.cast_ofNat_Int]
 | ok r1 =>
 obtain ⟨x1, k1⟩ := r1
 rw [c_1] at h1
 simp only at h1
 have s1 := (stopR_step hl hn s0 c_1).end_
 have hs := sign_d hl hn s1 [59]
 unfold RdD at hs
 simp only [andR]
 have ap := app_one (l := l) hl hn Bk.v f.breaks x1
 have vv := Bk_list x1
 cases c_s : signR l [59] k1 with
 | error e => rw [c_s] at hs; obtain ⟨j, hs⟩ := hs; refine ⟨j, { f with breaks := f.breaks ++ [x1] }, ?_⟩; (try unfold rd7 at *); (try unfold rd2 at *); (try unfold givenD at *); rw [decl_reader_line.eq]; simp only [hw0, hw1, hw2, hw3, hf, w1, hF, hM, h1, hs, vv, ap, lz, lx, if_true, if_false, lb, Int.cast_ofNat_Int]
 | ok rs =>
 obtain ⟨xs, ks⟩ := rs
 rw [c_s] at hs
 simp only at hs
 unfold RdL
 simp only [andR]
 (try unfold rd7 at *); (try unfold rd2 at *); (try unfold givenD at *); rw [decl_reader_line.eq]
 simp only [hw0, hw1, hw2, hw3, hf, w1, hF, hM, h1, hs, vv, ap, lz, lx, if_true, if_false, lb, Int.cast_ofNat_Int]
theorem line_watch_d (hE : ReadsE syntax_ReadExpr.id l) {k : Nat} (hk : k < l.length) (f : Fl) (n0 : isW (tk l k) [112, 97, 105, 114] = false) (n1 : isW (tk l k) [115, 97, 109, 101] = false) (n2 : isW (tk l k) [107, 101, 101, 112] = false) (n3 : isW (tk l k) [98, 114, 101, 97, 107] = false) (c : isW (tk l k) [119, 97, 116, 99, 104] = true) : RdL l (lineR l f k) (den Sp decl_reader_line.id [.ref 0 0] [rd7 l k f] none) := by
 have hw0 := word_d hl hn hk [112, 97, 105, 114]
 rw [n0] at hw0
 have hw1 := word_d hl hn hk [115, 97, 109, 101]
 rw [n1] at hw1
 have hw2 := word_d hl hn hk [107, 101, 101, 112]
 rw [n2] at hw2
 have hw3 := word_d hl hn hk [98, 114, 101, 97, 107]
 rw [n3] at hw3
 have hw4 := word_d hl hn hk [119, 97, 116, 99, 104]
 rw [c] at hw4
 unfold lineR itemR
 rw [n0, if_neg (fun h => Bool.noConfusion h)]
 rw [n1, if_neg (fun h => Bool.noConfusion h)]
 rw [n2, if_neg (fun h => Bool.noConfusion h)]
 rw [n3, if_neg (fun h => Bool.noConfusion h)]
 rw [c, if_pos rfl]
 unfold fullR
 have hf : RdD l (fun _ : Unit => .tup []) (if 40 <= (f.watches.map Wt.v).length then .error ((tk l k).at_, 2) else .ok ((), k)) (den Sp decl_reader_full.id [.ref 0 0, .int .i64 k, .int .i64 (((f.watches.map Wt.v).length : Nat) : Int), .int .i64 40] [rd2 l k] none) := full_d hl hn (k := k) k hk (f.watches.map Wt.v).length 40
 unfold RdD at hf
 have ln : (f.watches.map Wt.v).length = f.watches.length := List.length_map ..
 by_cases c4 : 40 <= f.watches.length
 ·rw [if_pos c4]
  rw [if_pos (by omega)] at hf
  obtain ⟨j, hf⟩ := hf
  refine ⟨j, f, ?_⟩
  (try unfold rd7 at *); (try unfold rd2 at *); (try unfold givenD at *); rw [decl_reader_line.eq]
  simp only [hw0, hw1, hw2, hw3, hw4, hf, lz, lx, if_true, if_false, lb, Int.cast_ofNat_Int]
 rw [if_neg c4]
 rw [if_neg (by omega)] at hf
 simp only at hf
 have hF : decide ((((f.watches.map Wt.v).length : Nat) : Int) >= 40) = false := decide_eq_false (by omega)
 have hM : ∀ (x : List V) (a b : Option Res), (if (f.watches.map Wt.v).length + List.length [x] <= most then a else b) = a := fun x a b => if_pos (by show _ + 1 <= 1099511627776; omega)
 have w1 := wr1 (show k < 1099511627776 by omega)
 have s0 : k + 1 < l.length := hl.next hk (by rw [(isW_kind c).1]; decide)
 have h1 := side_d hl hn s0
 unfold RdD at h1
 simp only [keepR, andR]
 cases c_1 : sideR l (k + 1) with
 | error e => rw [c_1] at h1; obtain ⟨j, h1⟩ := h1; refine ⟨j, f, ?_⟩; (try unfold rd7 at *); (try unfold rd2 at *); (try unfold givenD at *); rw [decl_reader_line.eq]; simp only [hw0, hw1, hw2, hw3, hw4, hf, w1, hF, hM, h1, lz, lx, if_true, if_false, lb, Int.cast_ofNat_Int]
 | ok r1 =>
 obtain ⟨x1, k1⟩ := r1
 rw [c_1] at h1
 simp only at h1
 have s1 := (sideR_step hl s0 c_1).1.end_
 have h2 := name_d hl hn s1
 unfold RdD at h2
 simp only [andR]
 cases c_2 : nameR l k1 with
 | error e => rw [c_2] at h2; obtain ⟨j, h2⟩ := h2; refine ⟨j, f, ?_⟩; (try unfold rd7 at *); (try unfold rd2 at *); (try unfold givenD at *); rw [decl_reader_line.eq]; simp only [hw0, hw1, hw2, hw3, hw4, hf, w1, hF, hM, h1, h2, lz, lx, if_true, if_false, lb, Int.cast_ofNat_Int]
 | ok r2 =>
 obtain ⟨x2, k2⟩ := r2
 rw [c_2] at h2
 simp only at h2
 have s2 := (nameR_step hl s1 c_2).1.end_
 have h3 := name_d hl hn s2
 unfold RdD at h3
 simp only [andR]
 cases c_3 : nameR l k2 with
 | error e => rw [c_3] at h3; obtain ⟨j, h3⟩ := h3; refine ⟨j, f, ?_⟩; (try unfold rd7 at *); (try unfold rd2 at *); (try unfold givenD at *); rw [decl_reader_line.eq]; simp only [hw0, hw1, hw2, hw3, hw4, hf, w1, hF, hM, h1, h2, h3, lz, lx, if_true, if_false, lb, Int.cast_ofNat_Int]
 | ok r3 =>
 obtain ⟨x3, k3⟩ := r3
 rw [c_3] at h3
 simp only at h3
 have s3 := (nameR_step hl s2 c_3).1.end_
 have hs := sign_d hl hn s3 [59]
 unfold RdD at hs
 simp only [andR]
 have ap := app_one (l := l) hl hn Wt.v f.watches ⟨x1, x2, x3⟩
 rw [Wt.v_mk] at ap
 cases c_s : signR l [59] k3 with
 | error e => rw [c_s] at hs; obtain ⟨j, hs⟩ := hs; refine ⟨j, { f with watches := f.watches ++ [⟨x1, x2, x3⟩] }, ?_⟩; (try unfold rd7 at *); (try unfold rd2 at *); (try unfold givenD at *); rw [decl_reader_line.eq]; simp only [hw0, hw1, hw2, hw3, hw4, hf, w1, hF, hM, h1, h2, h3, hs, ap, lz, lx, if_true, if_false, lb, Int.cast_ofNat_Int]
 | ok rs =>
 obtain ⟨xs, ks⟩ := rs
 rw [c_s] at hs
 simp only at hs
 unfold RdL
 simp only [andR]
 (try unfold rd7 at *); (try unfold rd2 at *); (try unfold givenD at *); rw [decl_reader_line.eq]
 simp only [hw0, hw1, hw2, hw3, hw4, hf, w1, hF, hM, h1, h2, h3, hs, ap, lz, lx, if_true, if_false, lb, Int.cast_ofNat_Int]
theorem line_d (hE : ReadsE syntax_ReadExpr.id l) {k : Nat} (hk : k < l.length) (f : Fl) : RdL l (lineR l f k) (den Sp decl_reader_line.id [.ref 0 0] [rd7 l k f] none) := by
 cases n0 : isW (tk l k) [112, 97, 105, 114] with
 | true => exact line_pair_d hl hn hE hk f  n0
 | false =>
 cases n1 : isW (tk l k) [115, 97, 109, 101] with
 | true => exact line_same_d hl hn hE hk f n0 n1
 | false =>
 cases n2 : isW (tk l k) [107, 101, 101, 112] with
 | true => exact line_keep_d hl hn hE hk f n0 n1 n2
 | false =>
 cases n3 : isW (tk l k) [98, 114, 101, 97, 107] with
 | true => exact line_break_d hl hn hE hk f n0 n1 n2 n3
 | false =>
 cases n4 : isW (tk l k) [119, 97, 116, 99, 104] with
 | true => exact line_watch_d hl hn hE hk f n0 n1 n2 n3 n4
 | false =>
 have hw0 := word_d hl hn hk [112, 97, 105, 114]
 rw [n0] at hw0
 have hw1 := word_d hl hn hk [115, 97, 109, 101]
 rw [n1] at hw1
 have hw2 := word_d hl hn hk [107, 101, 101, 112]
 rw [n2] at hw2
 have hw3 := word_d hl hn hk [98, 114, 101, 97, 107]
 rw [n3] at hw3
 have hw4 := word_d hl hn hk [119, 97, 116, 99, 104]
 rw [n4] at hw4
 have hf := fail_d hl hn hk 30
 unfold lineR itemR
 rw [n0, n1, n2, n3, n4]
 refine ⟨k, f, ?_⟩
 (try unfold rd7 at *); (try unfold rd2 at *); (try unfold givenD at *); rw [decl_reader_line.eq]
 simp only [hw0, hw1, hw2, hw3, hw4, hf, lz, lx, if_true, if_false, lb]
end
end Go.Proofs.YtmhnmelaodhemaaGreatDoor
namespace Go.Proofs.YtmhnmelaodhemaaGreatDoor
open Go Go.Proofs.Ab
namespace ref12_in_line
noncomputable abbrev e (p : List Nat) := ev Sp (den Sp) id Tryz.f85.ntmps (cAt (bodyOf Tryz.f85) p)
noncomputable abbrev cn (n0 : List Nat) := canon Sp id n0
noncomputable abbrev K : K := kFin Sp (den Sp) (Sp.oo id) Tryz.f85 1
noncomputable def L1_0_0_1_1_1_0_1_1_1_0_1_0 (l0 : List (List V)) (i1 : Int) (l2 : List (List V)) (i3 i4 i5 : Int) (l6 l7 l8 l9 l10 : List (List V)) : Option Res := LP (e [1, 0, 0, 1, 1, 1, 0, 1, 1, 1, 0, 1, 0, 0]) (cn [0, 1003, 1004]) (kBlk 1 (kSeq (e [1, 0, 0, 1, 1, 1, 0, 1, 1, 1, 1]) (kBlk 0 (kSeq (e [1, 1]) (K))))) ([(0, (V.ref 0 0)), (3, (V.ref 1003 0)), (4, (V.ref 1004 0)), (7, (V.sl (Tok.row 0) T_string l0)), (8, (V.int .i64 i1))], ⟨[(0, (Blk.cells T_parallaxref12_in [V.sl .no T_api_Token l2, V.int .i64 i3, V.int .i64 i4, V.int .i64 i5] false)), (1003, (Blk.cells T_parallaxref12_File [V.sl (Tok.row 1) T_api_Pair l6, V.sl (Tok.row 2) T_api_Pair l7, V.sl (Tok.row 3) T_parallaxref12_Keep l8, V.sl (Tok.row 4) T_parallaxref12_Break l9, V.sl (Tok.row 5) T_parallaxref12_Watch l10] false)), (1004, (Blk.cells T_parallaxref12_File [V.sl (Tok.row 6) T_api_Pair [], V.sl (Tok.row 7) T_api_Pair [], V.sl (Tok.row 8) T_parallaxref12_Keep [], V.sl (Tok.row 9) T_parallaxref12_Break [], V.sl (Tok.row 10) T_parallaxref12_Watch []] false))], [0, 1, 2, 3, 4, 5, 6, 7, 8, 9, 10], [], [], none⟩)
theorem L1_0_0_1_1_1_0_1_1_1_0_1_0_eq (l0 : List (List V)) (i1 : Int) (l2 : List (List V)) (i3 i4 i5 : Int) (l6 l7 l8 l9 l10 : List (List V)) : L1_0_0_1_1_1_0_1_1_1_0_1_0 l0 i1 l2 i3 i4 i5 l6 l7 l8 l9 l10 =
  (bif (decide (i1 < (2 : Int))) then (den Sp ref12_in_name.id [V.ref 0 0] [Blk.cells T_parallaxref12_in [V.sl .no T_api_Token l2, V.int .i64 i3, V.int .i64 i4, V.int .i64 i5] false] none).bind (fun r53 => Blk.asCells (List.getD (Res.bl r53) 0 (Blk.cells T_n0 [] true)) T_parallaxref12_in 4 (fun rd54 => V.asSl (rd54 0) T_api_Token (fun es55 => V.asInt (rd54 1) .i64 (fun n56 => V.asInt (rd54 2) .i64 (fun n57 => V.asInt (rd54 3) .i64 (fun n58 => Res.onRet r53 (fun v59 => V.asStr v59 (fun s60 => (den Sp ref12_in_take.id [V.ref 0 0, V.int .i64 (4 : Int), V.str (ByteArray.mk #[40])] [Blk.cells T_parallaxref12_in [V.sl .no T_api_Token es55, V.int .i64 n56, V.int .i64 n57, V.int .i64 n58] false] none).bind (fun r62 => Blk.asCells (List.getD (Res.bl r62) 0 (Blk.cells T_n0 [] true)) T_parallaxref12_in 4 (fun rd63 => V.asSl (rd63 0) T_api_Token (fun es64 => V.asInt (rd63 1) .i64 (fun n65 => V.asInt (rd63 2) .i64 (fun n66 => V.asInt (rd63 3) .i64 (fun n67 => Res.onRet r62 (fun v68 => V.asAgg v68 4 (fun rd69 => V.asInt (rd69 0) .i64 (fun n70 => V.asStr (rd69 1) (fun s71 => V.asInt (rd69 2) .i64 (fun n72 => V.asInt (rd69 3) .i64 (fun n73 => (den Sp ref12_in_name.id [V.ref 0 0] [Blk.cells T_parallaxref12_in [V.sl .no T_api_Token es64, V.int .i64 n65, V.int .i64 n66, V.int .i64 n67] false] none).bind (fun r75 => Blk.asCells (List.getD (Res.bl r75) 0 (Blk.cells T_n0 [] true)) T_parallaxref12_in 4 (fun rd76 => V.asSl (rd76 0) T_api_Token (fun es77 => V.asInt (rd76 1) .i64 (fun n78 => V.asInt (rd76 2) .i64 (fun n79 => V.asInt (rd76 3) .i64 (fun n80 => Res.onRet r75 (fun v81 => V.asStr v81 (fun s82 => (den Sp ref12_in_take.id [V.ref 0 0, V.int .i64 (4 : Int), V.str (ByteArray.mk #[41])] [Blk.cells T_parallaxref12_in [V.sl .no T_api_Token es77, V.int .i64 n78, V.int .i64 n79, V.int .i64 n80] false] none).bind (fun r84 => Blk.asCells (List.getD (Res.bl r84) 0 (Blk.cells T_n0 [] true)) T_parallaxref12_in 4 (fun rd85 => V.asSl (rd85 0) T_api_Token (fun es86 => V.asInt (rd85 1) .i64 (fun n87 => V.asInt (rd85 2) .i64 (fun n88 => V.asInt (rd85 3) .i64 (fun n89 => Res.onRet r84 (fun v90 => V.asAgg v90 4 (fun rd91 => V.asInt (rd91 0) .i64 (fun n92 => V.asStr (rd91 1) (fun s93 => V.asInt (rd91 2) .i64 (fun n94 => V.asInt (rd91 3) .i64 (fun n95 => if (((List.length l0) + (List.length [[V.str s60]])) <= most) then (if (((List.length (l0 ++ [[V.str s60]])) + (List.length [[V.str s82]])) <= most) then (L1_0_0_1_1_1_0_1_1_1_0_1_0 ((l0 ++ [[V.str s60]]) ++ [[V.str s82]]) (IntKind.wrap .i64 (i1 + (1 : Int))) es86 n87 n88 n89 l6 l7 l8 l9 l10) else none) else none)))))))))))))))))))))))))))))))))))))))) else (if (((0 : Int) <= (0 : Int)) ∧ ((0 : Int) < (l0.length : Int))) then (V.asStr (List.getD (List.getD l0 0 []) 0 V.undef) (fun s53 => if (((0 : Int) <= (1 : Int)) ∧ ((1 : Int) < (l0.length : Int))) then (V.asStr (List.getD (List.getD l0 1 []) 0 V.undef) (fun s54 => if (((0 : Int) <= (2 : Int)) ∧ ((2 : Int) < (l0.length : Int))) then (V.asStr (List.getD (List.getD l0 2 []) 0 V.undef) (fun s55 => if (((0 : Int) <= (3 : Int)) ∧ ((3 : Int) < (l0.length : Int))) then (V.asStr (List.getD (List.getD l0 3 []) 0 V.undef) (fun s56 => if (((List.length l7) + (List.length [[V.str s53, V.str s55, V.str s54, V.str s56]])) <= most) then (den Sp ref12_in_take.id [V.ref 0 0, V.int .i64 (4 : Int), V.str (ByteArray.mk #[59])] [Blk.cells T_parallaxref12_in [V.sl .no T_api_Token l2, V.int .i64 i3, V.int .i64 i4, V.int .i64 i5] false] none).bind (fun r58 => Blk.asCells (List.getD (Res.bl r58) 0 (Blk.cells T_n0 [] true)) T_parallaxref12_in 4 (fun rd59 => V.asSl (rd59 0) T_api_Token (fun es60 => V.asInt (rd59 1) .i64 (fun n61 => V.asInt (rd59 2) .i64 (fun n62 => V.asInt (rd59 3) .i64 (fun n63 => Res.onRet r58 (fun v64 => V.asAgg v64 4 (fun rd65 => V.asInt (rd65 0) .i64 (fun n66 => V.asStr (rd65 1) (fun s67 => V.asInt (rd65 2) .i64 (fun n68 => V.asInt (rd65 3) .i64 (fun n69 => some ⟨Out.ret (V.agg [V.sl (Tok.row 0) T_api_Pair l6, V.sl (Tok.row 1) T_api_Pair (l7 ++ [[V.str s53, V.str s55, V.str s54, V.str s56]]), V.sl (Tok.row 2) T_parallaxref12_Keep l8, V.sl (Tok.row 3) T_parallaxref12_Break l9, V.sl (Tok.row 4) T_parallaxref12_Watch l10]), [Blk.cells T_parallaxref12_in [V.sl .no T_api_Token es60, V.int .i64 n61, V.int .i64 n62, V.int .i64 n63] false], none⟩)))))))))))) else none)) else none)) else none)) else none)) else none)) := (LP_eq ..).trans (by kernel_rfl)
theorem eq (m0_0 : List (List V)) (m0_1 m0_2 m0_3 : Int) (a1_0 a1_1 a1_2 a1_3 a1_4 : List (List V)) : den Sp id [V.ref 0 0, V.agg [V.sl (Tok.row 0) T_api_Pair a1_0, V.sl (Tok.row 1) T_api_Pair a1_1, V.sl (Tok.row 2) T_parallaxref12_Keep a1_2, V.sl (Tok.row 3) T_parallaxref12_Break a1_3, V.sl (Tok.row 4) T_parallaxref12_Watch a1_4]] [Blk.cells T_parallaxref12_in [V.sl .no T_api_Token m0_0, V.int .i64 m0_1, V.int .i64 m0_2, V.int .i64 m0_3] false] none =
  (den Sp ref12_in_is.id [V.ref 0 0, V.int .i64 (1 : Int), V.str (ByteArray.mk #[112, 97, 105, 114])] [Blk.cells T_parallaxref12_in [V.sl .no T_api_Token m0_0, V.int .i64 m0_1, V.int .i64 m0_2, V.int .i64 m0_3] false] none).bind (fun r11 => Blk.asCells (List.getD (Res.bl r11) 0 (Blk.cells T_n0 [] true)) T_parallaxref12_in 4 (fun rd12 => V.asSl (rd12 0) T_api_Token (fun es13 => V.asInt (rd12 1) .i64 (fun n14 => V.asInt (rd12 2) .i64 (fun n15 => V.asInt (rd12 3) .i64 (fun n16 => Res.onRet r11 (fun v17 => V.asBool v17 (fun b18 => bif b18 then (den Sp ref12_in_most.id [V.ref 0 0, V.int .i64 (a1_0.length : Int), V.int .i64 (40 : Int)] [Blk.cells T_parallaxref12_in [V.sl .no T_api_Token es13, V.int .i64 n14, V.int .i64 n15, V.int .i64 n16] false] none).bind (fun r20 => Blk.asCells (List.getD (Res.bl r20) 0 (Blk.cells T_n0 [] true)) T_parallaxref12_in 4 (fun rd21 => V.asSl (rd21 0) T_api_Token (fun es22 => V.asInt (rd21 1) .i64 (fun n23 => V.asInt (rd21 2) .i64 (fun n24 => V.asInt (rd21 3) .i64 (fun n25 => Res.onRet r20 (fun v26 => V.asTup v26 0 (fun rd27 => (den Sp ref12_in_name.id [V.ref 0 0] [Blk.cells T_parallaxref12_in [V.sl .no T_api_Token es22, V.int .i64 (IntKind.wrap .i64 (n23 + (1 : Int))), V.int .i64 n24, V.int .i64 n25] false] none).bind (fun r30 => Blk.asCells (List.getD (Res.bl r30) 0 (Blk.cells T_n0 [] true)) T_parallaxref12_in 4 (fun rd31 => V.asSl (rd31 0) T_api_Token (fun es32 => V.asInt (rd31 1) .i64 (fun n33 => V.asInt (rd31 2) .i64 (fun n34 => V.asInt (rd31 3) .i64 (fun n35 => Res.onRet r30 (fun v36 => V.asStr v36 (fun s37 => (den Sp ref12_in_name.id [V.ref 0 0] [Blk.cells T_parallaxref12_in [V.sl .no T_api_Token es32, V.int .i64 n33, V.int .i64 n34, V.int .i64 n35] false] none).bind (fun r39 => Blk.asCells (List.getD (Res.bl r39) 0 (Blk.cells T_n0 [] true)) T_parallaxref12_in 4 (fun rd40 => V.asSl (rd40 0) T_api_Token (fun es41 => V.asInt (rd40 1) .i64 (fun n42 => V.asInt (rd40 2) .i64 (fun n43 => V.asInt (rd40 3) .i64 (fun n44 => Res.onRet r39 (fun v45 => V.asStr v45 (fun s46 => if (((List.length a1_0) + (List.length [[V.str s37, V.str s46, V.str (ByteArray.mk #[]), V.str (ByteArray.mk #[])]])) <= most) then (den Sp ref12_in_take.id [V.ref 0 0, V.int .i64 (4 : Int), V.str (ByteArray.mk #[59])] [Blk.cells T_parallaxref12_in [V.sl .no T_api_Token es41, V.int .i64 n42, V.int .i64 n43, V.int .i64 n44] false] none).bind (fun r49 => Blk.asCells (List.getD (Res.bl r49) 0 (Blk.cells T_n0 [] true)) T_parallaxref12_in 4 (fun rd50 => V.asSl (rd50 0) T_api_Token (fun es51 => V.asInt (rd50 1) .i64 (fun n52 => V.asInt (rd50 2) .i64 (fun n53 => V.asInt (rd50 3) .i64 (fun n54 => Res.onRet r49 (fun v55 => V.asAgg v55 4 (fun rd56 => V.asInt (rd56 0) .i64 (fun n57 => V.asStr (rd56 1) (fun s58 => V.asInt (rd56 2) .i64 (fun n59 => V.asInt (rd56 3) .i64 (fun n60 => some ⟨Out.ret (V.agg [V.sl (Tok.row 0) T_api_Pair (a1_0 ++ [[V.str s37, V.str s46, V.str (ByteArray.mk #[]), V.str (ByteArray.mk #[])]]), V.sl (Tok.row 1) T_api_Pair a1_1, V.sl (Tok.row 2) T_parallaxref12_Keep a1_2, V.sl (Tok.row 3) T_parallaxref12_Break a1_3, V.sl (Tok.row 4) T_parallaxref12_Watch a1_4]), [Blk.cells T_parallaxref12_in [V.sl .no T_api_Token es51, V.int .i64 n52, V.int .i64 n53, V.int .i64 n54] false], none⟩)))))))))))) else none)))))))))))))))))))))))) else (den Sp ref12_in_is.id [V.ref 0 0, V.int .i64 (1 : Int), V.str (ByteArray.mk #[115, 97, 109, 101])] [Blk.cells T_parallaxref12_in [V.sl .no T_api_Token es13, V.int .i64 n14, V.int .i64 n15, V.int .i64 n16] false] none).bind (fun r20 => Blk.asCells (List.getD (Res.bl r20) 0 (Blk.cells T_n0 [] true)) T_parallaxref12_in 4 (fun rd21 => V.asSl (rd21 0) T_api_Token (fun es22 => V.asInt (rd21 1) .i64 (fun n23 => V.asInt (rd21 2) .i64 (fun n24 => V.asInt (rd21 3) .i64 (fun n25 => Res.onRet r20 (fun v26 => V.asBool v26 (fun b27 => bif b27 then (den Sp ref12_in_most.id [V.ref 0 0, V.int .i64 (a1_1.length : Int), V.int .i64 (40 : Int)] [Blk.cells T_parallaxref12_in [V.sl .no T_api_Token es22, V.int .i64 n23, V.int .i64 n24, V.int .i64 n25] false] none).bind (fun r29 => Blk.asCells (List.getD (Res.bl r29) 0 (Blk.cells T_n0 [] true)) T_parallaxref12_in 4 (fun rd30 => V.asSl (rd30 0) T_api_Token (fun es31 => V.asInt (rd30 1) .i64 (fun n32 => V.asInt (rd30 2) .i64 (fun n33 => V.asInt (rd30 3) .i64 (fun n34 => Res.onRet r29 (fun v35 => V.asTup v35 0 (fun rd36 => L1_0_0_1_1_1_0_1_1_1_0_1_0 [] (0 : Int) es31 (IntKind.wrap .i64 (n32 + (1 : Int))) n33 n34 a1_0 a1_1 a1_2 a1_3 a1_4)))))))) else (den Sp ref12_in_is.id [V.ref 0 0, V.int .i64 (1 : Int), V.str (ByteArray.mk #[107, 101, 101, 112])] [Blk.cells T_parallaxref12_in [V.sl .no T_api_Token es22, V.int .i64 n23, V.int .i64 n24, V.int .i64 n25] false] none).bind (fun r29 => Blk.asCells (List.getD (Res.bl r29) 0 (Blk.cells T_n0 [] true)) T_parallaxref12_in 4 (fun rd30 => V.asSl (rd30 0) T_api_Token (fun es31 => V.asInt (rd30 1) .i64 (fun n32 => V.asInt (rd30 2) .i64 (fun n33 => V.asInt (rd30 3) .i64 (fun n34 => Res.onRet r29 (fun v35 => V.asBool v35 (fun b36 => bif b36 then (den Sp ref12_in_most.id [V.ref 0 0, V.int .i64 (a1_2.length : Int), V.int .i64 (40 : Int)] [Blk.cells T_parallaxref12_in [V.sl .no T_api_Token es31, V.int .i64 n32, V.int .i64 n33, V.int .i64 n34] false] none).bind (fun r38 => Blk.asCells (List.getD (Res.bl r38) 0 (Blk.cells T_n0 [] true)) T_parallaxref12_in 4 (fun rd39 => V.asSl (rd39 0) T_api_Token (fun es40 => V.asInt (rd39 1) .i64 (fun n41 => V.asInt (rd39 2) .i64 (fun n42 => V.asInt (rd39 3) .i64 (fun n43 => Res.onRet r38 (fun v44 => V.asTup v44 0 (fun rd45 => (den Sp ref12_in_side.id [V.ref 0 0] [Blk.cells T_parallaxref12_in [V.sl .no T_api_Token es40, V.int .i64 (IntKind.wrap .i64 (n41 + (1 : Int))), V.int .i64 n42, V.int .i64 n43] false] none).bind (fun r48 => Blk.asCells (List.getD (Res.bl r48) 0 (Blk.cells T_n0 [] true)) T_parallaxref12_in 4 (fun rd49 => V.asSl (rd49 0) T_api_Token (fun es50 => V.asInt (rd49 1) .i64 (fun n51 => V.asInt (rd49 2) .i64 (fun n52 => V.asInt (rd49 3) .i64 (fun n53 => Res.onRet r48 (fun v54 => V.asInt v54 .i64 (fun n55 => (den Sp ref12_in_name.id [V.ref 0 0] [Blk.cells T_parallaxref12_in [V.sl .no T_api_Token es50, V.int .i64 n51, V.int .i64 n52, V.int .i64 n53] false] none).bind (fun r57 => Blk.asCells (List.getD (Res.bl r57) 0 (Blk.cells T_n0 [] true)) T_parallaxref12_in 4 (fun rd58 => V.asSl (rd58 0) T_api_Token (fun es59 => V.asInt (rd58 1) .i64 (fun n60 => V.asInt (rd58 2) .i64 (fun n61 => V.asInt (rd58 3) .i64 (fun n62 => Res.onRet r57 (fun v63 => V.asStr v63 (fun s64 => (den Sp ref12_in_name.id [V.ref 0 0] [Blk.cells T_parallaxref12_in [V.sl .no T_api_Token es59, V.int .i64 n60, V.int .i64 n61, V.int .i64 n62] false] none).bind (fun r66 => Blk.asCells (List.getD (Res.bl r66) 0 (Blk.cells T_n0 [] true)) T_parallaxref12_in 4 (fun rd67 => V.asSl (rd67 0) T_api_Token (fun es68 => V.asInt (rd67 1) .i64 (fun n69 => V.asInt (rd67 2) .i64 (fun n70 => V.asInt (rd67 3) .i64 (fun n71 => Res.onRet r66 (fun v72 => V.asStr v72 (fun s73 => if (((List.length a1_2) + (List.length [[V.int .i64 n55, V.str s64, V.str s73]])) <= most) then (den Sp ref12_in_take.id [V.ref 0 0, V.int .i64 (4 : Int), V.str (ByteArray.mk #[59])] [Blk.cells T_parallaxref12_in [V.sl .no T_api_Token es68, V.int .i64 n69, V.int .i64 n70, V.int .i64 n71] false] none).bind (fun r76 => Blk.asCells (List.getD (Res.bl r76) 0 (Blk.cells T_n0 [] true)) T_parallaxref12_in 4 (fun rd77 => V.asSl (rd77 0) T_api_Token (fun es78 => V.asInt (rd77 1) .i64 (fun n79 => V.asInt (rd77 2) .i64 (fun n80 => V.asInt (rd77 3) .i64 (fun n81 => Res.onRet r76 (fun v82 => V.asAgg v82 4 (fun rd83 => V.asInt (rd83 0) .i64 (fun n84 => V.asStr (rd83 1) (fun s85 => V.asInt (rd83 2) .i64 (fun n86 => V.asInt (rd83 3) .i64 (fun n87 => some ⟨Out.ret (V.agg [V.sl (Tok.row 0) T_api_Pair a1_0, V.sl (Tok.row 1) T_api_Pair a1_1, V.sl (Tok.row 2) T_parallaxref12_Keep (a1_2 ++ [[V.int .i64 n55, V.str s64, V.str s73]]), V.sl (Tok.row 3) T_parallaxref12_Break a1_3, V.sl (Tok.row 4) T_parallaxref12_Watch a1_4]), [Blk.cells T_parallaxref12_in [V.sl .no T_api_Token es78, V.int .i64 n79, V.int .i64 n80, V.int .i64 n81] false], none⟩)))))))))))) else none)))))))))))))))))))))))))))))))) else (den Sp ref12_in_is.id [V.ref 0 0, V.int .i64 (1 : Int), V.str (ByteArray.mk #[119, 97, 116, 99, 104])] [Blk.cells T_parallaxref12_in [V.sl .no T_api_Token es31, V.int .i64 n32, V.int .i64 n33, V.int .i64 n34] false] none).bind (fun r38 => Blk.asCells (List.getD (Res.bl r38) 0 (Blk.cells T_n0 [] true)) T_parallaxref12_in 4 (fun rd39 => V.asSl (rd39 0) T_api_Token (fun es40 => V.asInt (rd39 1) .i64 (fun n41 => V.asInt (rd39 2) .i64 (fun n42 => V.asInt (rd39 3) .i64 (fun n43 => Res.onRet r38 (fun v44 => V.asBool v44 (fun b45 => bif b45 then (den Sp ref12_in_most.id [V.ref 0 0, V.int .i64 (a1_4.length : Int), V.int .i64 (40 : Int)] [Blk.cells T_parallaxref12_in [V.sl .no T_api_Token es40, V.int .i64 n41, V.int .i64 n42, V.int .i64 n43] false] none).bind (fun r47 => Blk.asCells (List.getD (Res.bl r47) 0 (Blk.cells T_n0 [] true)) T_parallaxref12_in 4 (fun rd48 => V.asSl (rd48 0) T_api_Token (fun es49 => V.asInt (rd48 1) .i64 (fun n50 => V.asInt (rd48 2) .i64 (fun n51 => V.asInt (rd48 3) .i64 (fun n52 => Res.onRet r47 (fun v53 => V.asTup v53 0 (fun rd54 => (den Sp ref12_in_side.id [V.ref 0 0] [Blk.cells T_parallaxref12_in [V.sl .no T_api_Token es49, V.int .i64 (IntKind.wrap .i64 (n50 + (1 : Int))), V.int .i64 n51, V.int .i64 n52] false] none).bind (fun r57 => Blk.asCells (List.getD (Res.bl r57) 0 (Blk.cells T_n0 [] true)) T_parallaxref12_in 4 (fun rd58 => V.asSl (rd58 0) T_api_Token (fun es59 => V.asInt (rd58 1) .i64 (fun n60 => V.asInt (rd58 2) .i64 (fun n61 => V.asInt (rd58 3) .i64 (fun n62 => Res.onRet r57 (fun v63 => V.asInt v63 .i64 (fun n64 => (den Sp ref12_in_name.id [V.ref 0 0] [Blk.cells T_parallaxref12_in [V.sl .no T_api_Token es59, V.int .i64 n60, V.int .i64 n61, V.int .i64 n62] false] none).bind (fun r66 => Blk.asCells (List.getD (Res.bl r66) 0 (Blk.cells T_n0 [] true)) T_parallaxref12_in 4 (fun rd67 => V.asSl (rd67 0) T_api_Token (fun es68 => V.asInt (rd67 1) .i64 (fun n69 => V.asInt (rd67 2) .i64 (fun n70 => V.asInt (rd67 3) .i64 (fun n71 => Res.onRet r66 (fun v72 => V.asStr v72 (fun s73 => (den Sp ref12_in_name.id [V.ref 0 0] [Blk.cells T_parallaxref12_in [V.sl .no T_api_Token es68, V.int .i64 n69, V.int .i64 n70, V.int .i64 n71] false] none).bind (fun r75 => Blk.asCells (List.getD (Res.bl r75) 0 (Blk.cells T_n0 [] true)) T_parallaxref12_in 4 (fun rd76 => V.asSl (rd76 0) T_api_Token (fun es77 => V.asInt (rd76 1) .i64 (fun n78 => V.asInt (rd76 2) .i64 (fun n79 => V.asInt (rd76 3) .i64 (fun n80 => Res.onRet r75 (fun v81 => V.asStr v81 (fun s82 => if (((List.length a1_4) + (List.length [[V.int .i64 n64, V.str s73, V.str s82]])) <= most) then (den Sp ref12_in_take.id [V.ref 0 0, V.int .i64 (4 : Int), V.str (ByteArray.mk #[59])] [Blk.cells T_parallaxref12_in [V.sl .no T_api_Token es77, V.int .i64 n78, V.int .i64 n79, V.int .i64 n80] false] none).bind (fun r85 => Blk.asCells (List.getD (Res.bl r85) 0 (Blk.cells T_n0 [] true)) T_parallaxref12_in 4 (fun rd86 => V.asSl (rd86 0) T_api_Token (fun es87 => V.asInt (rd86 1) .i64 (fun n88 => V.asInt (rd86 2) .i64 (fun n89 => V.asInt (rd86 3) .i64 (fun n90 => Res.onRet r85 (fun v91 => V.asAgg v91 4 (fun rd92 => V.asInt (rd92 0) .i64 (fun n93 => V.asStr (rd92 1) (fun s94 => V.asInt (rd92 2) .i64 (fun n95 => V.asInt (rd92 3) .i64 (fun n96 => some ⟨Out.ret (V.agg [V.sl (Tok.row 0) T_api_Pair a1_0, V.sl (Tok.row 1) T_api_Pair a1_1, V.sl (Tok.row 2) T_parallaxref12_Keep a1_2, V.sl (Tok.row 3) T_parallaxref12_Break a1_3, V.sl (Tok.row 4) T_parallaxref12_Watch (a1_4 ++ [[V.int .i64 n64, V.str s73, V.str s82]])]), [Blk.cells T_parallaxref12_in [V.sl .no T_api_Token es87, V.int .i64 n88, V.int .i64 n89, V.int .i64 n90] false], none⟩)))))))))))) else none)))))))))))))))))))))))))))))))) else (den Sp ref12_in_is.id [V.ref 0 0, V.int .i64 (1 : Int), V.str (ByteArray.mk #[98, 114, 101, 97, 107])] [Blk.cells T_parallaxref12_in [V.sl .no T_api_Token es40, V.int .i64 n41, V.int .i64 n42, V.int .i64 n43] false] none).bind (fun r47 => Blk.asCells (List.getD (Res.bl r47) 0 (Blk.cells T_n0 [] true)) T_parallaxref12_in 4 (fun rd48 => V.asSl (rd48 0) T_api_Token (fun es49 => V.asInt (rd48 1) .i64 (fun n50 => V.asInt (rd48 2) .i64 (fun n51 => V.asInt (rd48 3) .i64 (fun n52 => Res.onRet r47 (fun v53 => V.asBool v53 (fun b54 => bif b54 then (den Sp ref12_in_most.id [V.ref 0 0, V.int .i64 (a1_3.length : Int), V.int .i64 (40 : Int)] [Blk.cells T_parallaxref12_in [V.sl .no T_api_Token es49, V.int .i64 n50, V.int .i64 n51, V.int .i64 n52] false] none).bind (fun r56 => Blk.asCells (List.getD (Res.bl r56) 0 (Blk.cells T_n0 [] true)) T_parallaxref12_in 4 (fun rd57 => V.asSl (rd57 0) T_api_Token (fun es58 => V.asInt (rd57 1) .i64 (fun n59 => V.asInt (rd57 2) .i64 (fun n60 => V.asInt (rd57 3) .i64 (fun n61 => Res.onRet r56 (fun v62 => V.asTup v62 0 (fun rd63 => (den Sp ref12_in_side.id [V.ref 0 0] [Blk.cells T_parallaxref12_in [V.sl .no T_api_Token es58, V.int .i64 (IntKind.wrap .i64 (n59 + (1 : Int))), V.int .i64 n60, V.int .i64 n61] false] none).bind (fun r66 => Blk.asCells (List.getD (Res.bl r66) 0 (Blk.cells T_n0 [] true)) T_parallaxref12_in 4 (fun rd67 => V.asSl (rd67 0) T_api_Token (fun es68 => V.asInt (rd67 1) .i64 (fun n69 => V.asInt (rd67 2) .i64 (fun n70 => V.asInt (rd67 3) .i64 (fun n71 => Res.onRet r66 (fun v72 => V.asInt v72 .i64 (fun n73 => (den Sp ref12_in_name.id [V.ref 0 0] [Blk.cells T_parallaxref12_in [V.sl .no T_api_Token es68, V.int .i64 n69, V.int .i64 n70, V.int .i64 n71] false] none).bind (fun r75 => Blk.asCells (List.getD (Res.bl r75) 0 (Blk.cells T_n0 [] true)) T_parallaxref12_in 4 (fun rd76 => V.asSl (rd76 0) T_api_Token (fun es77 => V.asInt (rd76 1) .i64 (fun n78 => V.asInt (rd76 2) .i64 (fun n79 => V.asInt (rd76 3) .i64 (fun n80 => Res.onRet r75 (fun v81 => V.asStr v81 (fun s82 => (den Sp ref12_in_take.id [V.ref 0 0, V.int .i64 (2 : Int), V.str (ByteArray.mk #[])] [Blk.cells T_parallaxref12_in [V.sl .no T_api_Token es77, V.int .i64 n78, V.int .i64 n79, V.int .i64 n80] false] none).bind (fun r84 => Blk.asCells (List.getD (Res.bl r84) 0 (Blk.cells T_n0 [] true)) T_parallaxref12_in 4 (fun rd85 => V.asSl (rd85 0) T_api_Token (fun es86 => V.asInt (rd85 1) .i64 (fun n87 => V.asInt (rd85 2) .i64 (fun n88 => V.asInt (rd85 3) .i64 (fun n89 => Res.onRet r84 (fun v90 => V.asAgg v90 4 (fun rd91 => V.asInt (rd91 0) .i64 (fun n92 => V.asStr (rd91 1) (fun s93 => V.asInt (rd91 2) .i64 (fun n94 => V.asInt (rd91 3) .i64 (fun n95 => (den Sp ref12_in_is.id [V.ref 0 0, V.int .i64 (1 : Int), V.str (ByteArray.mk #[119, 104, 101, 110])] [Blk.cells T_parallaxref12_in [V.sl .no T_api_Token es86, V.int .i64 n87, V.int .i64 n88, V.int .i64 n89] false] none).bind (fun r98 => Blk.asCells (List.getD (Res.bl r98) 0 (Blk.cells T_n0 [] true)) T_parallaxref12_in 4 (fun rd99 => V.asSl (rd99 0) T_api_Token (fun es100 => V.asInt (rd99 1) .i64 (fun n101 => V.asInt (rd99 2) .i64 (fun n102 => V.asInt (rd99 3) .i64 (fun n103 => Res.onRet r98 (fun v104 => V.asBool v104 (fun b105 => bif b105 then (den Sp ref03_ReadExpr.id [V.sl .no T_api_Token es100, V.int .i64 (IntKind.wrap .i64 (n101 + (1 : Int)))] [] none).bind (fun r108 => Res.onRet r108 (fun v109 => V.asTup v109 4 (fun rd110 => V.asAgg (rd110 0) 4 (fun rd111 => V.asInt (rd111 0) .i64 (fun n112 => V.asStr (rd111 1) (fun s113 => V.asInt (rd111 2) .i64 (fun n114 => V.asSl (rd111 3) T_api_Expr (fun es115 => V.asInt (rd110 1) .i64 (fun n116 => V.asInt (rd110 2) .i64 (fun n117 => V.asInt (rd110 3) .i64 (fun n118 => bif (n118 != (0 : Int)) then (some ⟨Out.ret (V.agg [V.sl (Tok.row 0) T_api_Pair a1_0, V.sl (Tok.row 1) T_api_Pair a1_1, V.sl (Tok.row 2) T_parallaxref12_Keep a1_2, V.sl (Tok.row 3) T_parallaxref12_Break a1_3, V.sl (Tok.row 4) T_parallaxref12_Watch a1_4]), [Blk.cells T_parallaxref12_in [V.sl .no T_api_Token es100, V.int .i64 (IntKind.wrap .i64 (n101 + (1 : Int))), V.int .i64 n118, V.int .i64 n117] false], none⟩) else (if (((List.length a1_3) + (List.length [[V.int .i64 n73, V.str s82, V.int .i64 n94, V.sl .no T_api_Expr [[V.int .i64 n112, V.str s113, V.int .i64 n114, V.sl .no T_api_Expr es115]]]])) <= most) then (den Sp ref12_in_take.id [V.ref 0 0, V.int .i64 (4 : Int), V.str (ByteArray.mk #[59])] [Blk.cells T_parallaxref12_in [V.sl .no T_api_Token es100, V.int .i64 n116, V.int .i64 n102, V.int .i64 n103] false] none).bind (fun r124 => Blk.asCells (List.getD (Res.bl r124) 0 (Blk.cells T_n0 [] true)) T_parallaxref12_in 4 (fun rd125 => V.asSl (rd125 0) T_api_Token (fun es126 => V.asInt (rd125 1) .i64 (fun n127 => V.asInt (rd125 2) .i64 (fun n128 => V.asInt (rd125 3) .i64 (fun n129 => Res.onRet r124 (fun v130 => V.asAgg v130 4 (fun rd131 => V.asInt (rd131 0) .i64 (fun n132 => V.asStr (rd131 1) (fun s133 => V.asInt (rd131 2) .i64 (fun n134 => V.asInt (rd131 3) .i64 (fun n135 => some ⟨Out.ret (V.agg [V.sl (Tok.row 0) T_api_Pair a1_0, V.sl (Tok.row 1) T_api_Pair a1_1, V.sl (Tok.row 2) T_parallaxref12_Keep a1_2, V.sl (Tok.row 3) T_parallaxref12_Break (a1_3 ++ [[V.int .i64 n73, V.str s82, V.int .i64 n94, V.sl .no T_api_Expr [[V.int .i64 n112, V.str s113, V.int .i64 n114, V.sl .no T_api_Expr es115]]]]), V.sl (Tok.row 4) T_parallaxref12_Watch a1_4]), [Blk.cells T_parallaxref12_in [V.sl .no T_api_Token es126, V.int .i64 n127, V.int .i64 n128, V.int .i64 n129] false], none⟩)))))))))))) else none)))))))))))) else (if (((List.length a1_3) + (List.length [[V.int .i64 n73, V.str s82, V.int .i64 n94, V.sl .no T_api_Expr []]])) <= most) then (den Sp ref12_in_take.id [V.ref 0 0, V.int .i64 (4 : Int), V.str (ByteArray.mk #[59])] [Blk.cells T_parallaxref12_in [V.sl .no T_api_Token es100, V.int .i64 n101, V.int .i64 n102, V.int .i64 n103] false] none).bind (fun r108 => Blk.asCells (List.getD (Res.bl r108) 0 (Blk.cells T_n0 [] true)) T_parallaxref12_in 4 (fun rd109 => V.asSl (rd109 0) T_api_Token (fun es110 => V.asInt (rd109 1) .i64 (fun n111 => V.asInt (rd109 2) .i64 (fun n112 => V.asInt (rd109 3) .i64 (fun n113 => Res.onRet r108 (fun v114 => V.asAgg v114 4 (fun rd115 => V.asInt (rd115 0) .i64 (fun n116 => V.asStr (rd115 1) (fun s117 => V.asInt (rd115 2) .i64 (fun n118 => V.asInt (rd115 3) .i64 (fun n119 => some ⟨Out.ret (V.agg [V.sl (Tok.row 0) T_api_Pair a1_0, V.sl (Tok.row 1) T_api_Pair a1_1, V.sl (Tok.row 2) T_parallaxref12_Keep a1_2, V.sl (Tok.row 3) T_parallaxref12_Break (a1_3 ++ [[V.int .i64 n73, V.str s82, V.int .i64 n94, V.sl .no T_api_Expr []]]), V.sl (Tok.row 4) T_parallaxref12_Watch a1_4]), [Blk.cells T_parallaxref12_in [V.sl .no T_api_Token es110, V.int .i64 n111, V.int .i64 n112, V.int .i64 n113] false], none⟩)))))))))))) else none))))))))))))))))))))))))))))))))))))))))))))) else (den Sp ref12_in_fail.id [V.ref 0 0, V.int .i64 (30 : Int)] [Blk.cells T_parallaxref12_in [V.sl .no T_api_Token es49, V.int .i64 n50, V.int .i64 n51, V.int .i64 n52] false] none).bind (fun r56 => Blk.asCells (List.getD (Res.bl r56) 0 (Blk.cells T_n0 [] true)) T_parallaxref12_in 4 (fun rd57 => V.asSl (rd57 0) T_api_Token (fun es58 => V.asInt (rd57 1) .i64 (fun n59 => V.asInt (rd57 2) .i64 (fun n60 => V.asInt (rd57 3) .i64 (fun n61 => Res.onRet r56 (fun v62 => V.asTup v62 0 (fun rd63 => (den Sp ref12_in_take.id [V.ref 0 0, V.int .i64 (4 : Int), V.str (ByteArray.mk #[59])] [Blk.cells T_parallaxref12_in [V.sl .no T_api_Token es58, V.int .i64 n59, V.int .i64 n60, V.int .i64 n61] false] none).bind (fun r65 => Blk.asCells (List.getD (Res.bl r65) 0 (Blk.cells T_n0 [] true)) T_parallaxref12_in 4 (fun rd66 => V.asSl (rd66 0) T_api_Token (fun es67 => V.asInt (rd66 1) .i64 (fun n68 => V.asInt (rd66 2) .i64 (fun n69 => V.asInt (rd66 3) .i64 (fun n70 => Res.onRet r65 (fun v71 => V.asAgg v71 4 (fun rd72 => V.asInt (rd72 0) .i64 (fun n73 => V.asStr (rd72 1) (fun s74 => V.asInt (rd72 2) .i64 (fun n75 => V.asInt (rd72 3) .i64 (fun n76 => some ⟨Out.ret (V.agg [V.sl (Tok.row 0) T_api_Pair a1_0, V.sl (Tok.row 1) T_api_Pair a1_1, V.sl (Tok.row 2) T_parallaxref12_Keep a1_2, V.sl (Tok.row 3) T_parallaxref12_Break a1_3, V.sl (Tok.row 4) T_parallaxref12_Watch a1_4]), [Blk.cells T_parallaxref12_in [V.sl .no T_api_Token es67, V.int .i64 n68, V.int .i64 n69, V.int .i64 n70] false], none⟩)))))))))))))))))))))))))))))))))))))))))))))))))))))))))))) := (den_eq ..).trans (by kernel_rfl)
end ref12_in_line
end Go.Proofs.YtmhnmelaodhemaaGreatDoor
namespace Go.Proofs.YtmhnmelaodhemaaGreatDoor
open Go Go.Proofs.Ab Go.Proofs.Px
attribute [local congr] bind_h asInt_h asBool_h asStr_h asSl_h asSlR_h asAgg_h asTup_h asIface_h asCells_h onRet_h onOut_h cond_h
def Fl.ow (f : Fl) : List V := [.sl (.row 0) T_api_Pair (f.pairs.map Pai.v), .sl (.row 1) T_api_Pair (f.sames.map Pai.v), .sl (.row 2) T_parallaxref12_Keep (f.keeps.map Kp.v), .sl (.row 3) T_parallaxref12_Break (f.breaks.map Bk.v), .sl (.row 4) T_parallaxref12_Watch (f.watches.map Wt.v)]
def Rs.name (l : List Tk) (s : Rs) : Rs := s.take l 1 []
def Rs.nameT (l : List Tk) (s : Rs) : List UInt8 := (s.took l 1 []).text
def Rs.semi (l : List Tk) (s : Rs) : Rs := s.take l 4 [59]
def pairS (l : List Tk) (s : Rs) (f : Fl) : Rs × Fl :=
 let s1 := (s.most l f.pairs.length 40).next
 (((s1.name l).name l).semi l, { f with pairs := f.pairs ++ [⟨s1.nameT l, (s1.name l).nameT l, [], []⟩] })
def Rs.half (l : List Tk) (s : Rs) : Rs := (((s.name l).take l 4 [40]).name l).take l 4 [41]
def Rs.halfP (l : List Tk) (s : Rs) : List UInt8 := s.nameT l
def Rs.halfV (l : List Tk) (s : Rs) : List UInt8 := ((s.name l).take l 4 [40]).nameT l
def sameS (l : List Tk) (s : Rs) (f : Fl) : Rs × Fl :=
 let s1 := (s.most l f.sames.length 40).next
 (((s1.half l).half l).semi l, { f with sames := f.sames ++ [⟨s1.halfP l, (s1.half l).halfP l, s1.halfV l, (s1.half l).halfV l⟩] })
def Rs.triple (l : List Tk) (s : Rs) : Rs := ((s.side l).name l).name l
def keepS (l : List Tk) (s : Rs) (f : Fl) : Rs × Fl :=
 let s1 := (s.most l f.keeps.length 40).next
 ((s1.triple l).semi l, { f with keeps := f.keeps ++ [⟨s1.sideN l, (s1.side l).nameT l, ((s1.side l).name l).nameT l⟩] })
def watchS (l : List Tk) (s : Rs) (f : Fl) : Rs × Fl :=
 let s1 := (s.most l f.watches.length 40).next
 ((s1.triple l).semi l, { f with watches := f.watches ++ [⟨s1.sideN l, (s1.side l).nameT l, ((s1.side l).name l).nameT l⟩] })
def breakS (l : List Tk) (s : Rs) (f : Fl) : Rs × Fl :=
 let s1 := (s.most l f.breaks.length 40).next
 let s2 := (s1.side l).name l
 let s3 := s2.take l 2 []
 let b (w : List Ex) : Bk := ⟨s1.sideN l, (s1.side l).nameT l, (s2.took l 2 []).num, w⟩
 if s3.is l 1 [119, 104, 101, 110] = true then
  match partR l 1 s3.next.k (tightW l 1 1 s3.next.k) with
  | .error e => (⟨s3.next.k, e.2, e.1⟩, f)
  | .ok (x, j) => ((⟨j, s3.e, s3.a⟩ : Rs).semi l, { f with breaks := f.breaks ++ [b [x]] })
 else (s3.semi l, { f with breaks := f.breaks ++ [b []] })
def lineS (l : List Tk) (s : Rs) (f : Fl) : Rs × Fl :=
 if s.is l 1 [112, 97, 105, 114] = true then pairS l s f
 else if s.is l 1 [115, 97, 109, 101] = true then sameS l s f
 else if s.is l 1 [107, 101, 101, 112] = true then keepS l s f
 else if s.is l 1 [119, 97, 116, 99, 104] = true then watchS l s f
 else if s.is l 1 [98, 114, 101, 97, 107] = true then breakS l s f
 else ((s.fail l 30).semi l, f)
section
variable {l : List Tk} (hl : Ended l) (hn : l.length <= 100000)
include hl hn
theorem name_lt {s : Rs} (hk : s.k < l.length) : (s.name l).k < l.length := take_lt hl hn hk _ (by decide)
theorem nm_12 {s : Rs} (hk : s.k < l.length) : den Sp ref12_in_name.id [.ref 0 0] [in12 l s] none = some ⟨.ret (.str (B (s.nameT l))), [in12 l (s.name l)], none⟩ := name_12 hl hn hk
theorem semi_12 {s : Rs} (hk : s.k < l.length) : den Sp ref12_in_take.id [.ref 0 0, .int .i64 4, .str (B [59])] [in12 l s] none = some ⟨.ret (.agg (s.took l 4 [59]).v), [in12 l (s.semi l)], none⟩ := take_12 hl hn hk (by decide) _
theorem first_lt {s : Rs} (hk : s.k < l.length) (n : Int) {w : List UInt8} (c : s.is l 1 w = true) : (s.most l n 40).next.k < l.length := by
 unfold Rs.most Rs.next
 split
 ·rw [Rs.fail_k]; exact hl.next hk (by rw [(Rs.is_kind c).2.1]; decide)
 ·exact hl.next hk (by rw [(Rs.is_kind c).2.1]; decide)
theorem line_pair_12 {s : Rs} (hk : s.k < l.length) (f : Fl) (hf : f.pairs.length <= 1000000) (c0 : s.is l 1 [112, 97, 105, 114] = true) :
  den Sp ref12_in_line.id [.ref 0 0, .agg f.ow] [in12 l s] none = some ⟨.ret (.agg (pairS l s f).2.ow), [in12 l (pairS l s f).1], none⟩ := by
 have i0 := is_12 hl hn hk 1 [112, 97, 105, 114]
 rw [c0] at i0
 have ln : (f.pairs.map Pai.v).length = f.pairs.length := List.length_map ..
 have m := most_12 hl hn hk (f.pairs.length : Int) 40
 have hM : ∀ (x : List V) (a b : Option Res), (if f.pairs.length + List.length [x] <= most then a else b) = a := fun x a b => if_pos (by show _ + 1 <= 1099511627776; omega)
 have k1 := first_lt hl hn hk f.pairs.length c0
 have w1 := wr1 (show (s.most l f.pairs.length 40).k < 1099511627776 by unfold Rs.next at k1; simp only at k1; omega)
 unfold pairS
 simp only
 generalize s.most l f.pairs.length 40 = s1 at *
 have h1 := nm_12 hl hn k1
 have k2 := name_lt hl hn k1
 have h2 := nm_12 hl hn k2
 have k3 := name_lt hl hn k2
 have h3 := semi_12 hl hn k3
 have ap := app_one (l := l) hl hn Pai.v f.pairs ⟨s1.next.nameT l, (s1.next.name l).nameT l, [], []⟩
 rw [Pai.v_mk] at ap
 generalize ((s1.next.name l).name l).took l 4 [59] = t5 at *
 generalize ((s1.next.name l).name l).semi l = s5 at *
 generalize (s1.next.name l).name l = s4 at *
 generalize (s1.next.name l).nameT l = b at *
 generalize s1.next.name l = s3 at *
 generalize s1.next.nameT l = a at *
 unfold Fl.ow in12 Rs.next at *
 rw [ref12_in_line.eq]
 simp only [i0, m, ln, hM, h1, h2, h3, w1, ap, asAgg_tk, tkv_0, tkv_1, tkv_2, tkv_3, lz, lx, if_true, if_false, lb, Int.cast_ofNat_Int]
theorem line_keep_12 {s : Rs} (hk : s.k < l.length) (f : Fl) (hf : f.keeps.length <= 1000000) (n0 : s.is l 1 [112, 97, 105, 114] = false) (n1 : s.is l 1 [115, 97, 109, 101] = false) (c0 : s.is l 1 [107, 101, 101, 112] = true) :
  den Sp ref12_in_line.id [.ref 0 0, .agg f.ow] [in12 l s] none = some ⟨.ret (.agg (keepS l s f).2.ow), [in12 l (keepS l s f).1], none⟩ := by
 have j0 := is_12 hl hn hk 1 [112, 97, 105, 114]
 rw [n0] at j0
 have j1 := is_12 hl hn hk 1 [115, 97, 109, 101]
 rw [n1] at j1
 have i0 := is_12 hl hn hk 1 [107, 101, 101, 112]
 rw [c0] at i0
 have ln : (f.keeps.map Kp.v).length = f.keeps.length := List.length_map ..
 have m := most_12 hl hn hk (f.keeps.length : Int) 40
 have hM : ∀ (x : List V) (a b : Option Res), (if f.keeps.length + List.length [x] <= most then a else b) = a := fun x a b => if_pos (by show _ + 1 <= 1099511627776; omega)
 have k1 := first_lt hl hn hk f.keeps.length c0
 have w1 := wr1 (show (s.most l f.keeps.length 40).k < 1099511627776 by unfold Rs.next at k1; simp only at k1; omega)
 unfold keepS
 simp only
 generalize s.most l f.keeps.length 40 = s1 at *
 have h0 := side_12 hl hn k1
 have k2 := side_lt hl hn k1
 have h1 := nm_12 hl hn k2
 have k3 := name_lt hl hn k2
 have h2 := nm_12 hl hn k3
 have k4 := name_lt hl hn k3
 have h3 := semi_12 hl hn k4
 have ap := app_one (l := l) hl hn Kp.v f.keeps ⟨s1.next.sideN l, (s1.next.side l).nameT l, ((s1.next.side l).name l).nameT l⟩
 rw [Kp.v_mk] at ap
 unfold Rs.triple
 generalize (((s1.next.side l).name l).name l).took l 4 [59] = t5 at *
 generalize (((s1.next.side l).name l).name l).semi l = s6 at *
 generalize ((s1.next.side l).name l).name l = s5 at *
 generalize ((s1.next.side l).name l).nameT l = c at *
 generalize (s1.next.side l).name l = s4 at *
 generalize (s1.next.side l).nameT l = b at *
 generalize s1.next.side l = s3 at *
 generalize s1.next.sideN l = a at *
 unfold Fl.ow in12 Rs.next at *
 rw [ref12_in_line.eq]
 simp only [j0, j1, i0, m, ln, hM, h0, h1, h2, h3, w1, ap, asAgg_tk, tkv_0, tkv_1, tkv_2, tkv_3, lz, lx, if_true, if_false, lb, Int.cast_ofNat_Int]
theorem line_watch_12 {s : Rs} (hk : s.k < l.length) (f : Fl) (hf : f.watches.length <= 1000000) (n0 : s.is l 1 [112, 97, 105, 114] = false) (n1 : s.is l 1 [115, 97, 109, 101] = false) (n2 : s.is l 1 [107, 101, 101, 112] = false) (c0 : s.is l 1 [119, 97, 116, 99, 104] = true) :
  den Sp ref12_in_line.id [.ref 0 0, .agg f.ow] [in12 l s] none = some ⟨.ret (.agg (watchS l s f).2.ow), [in12 l (watchS l s f).1], none⟩ := by
 have j0 := is_12 hl hn hk 1 [112, 97, 105, 114]
 rw [n0] at j0
 have j1 := is_12 hl hn hk 1 [115, 97, 109, 101]
 rw [n1] at j1
 have j2 := is_12 hl hn hk 1 [107, 101, 101, 112]
 rw [n2] at j2
 have i0 := is_12 hl hn hk 1 [119, 97, 116, 99, 104]
 rw [c0] at i0
 have ln : (f.watches.map Wt.v).length = f.watches.length := List.length_map ..
 have m := most_12 hl hn hk (f.watches.length : Int) 40
 have hM : ∀ (x : List V) (a b : Option Res), (if f.watches.length + List.length [x] <= most then a else b) = a := fun x a b => if_pos (by show _ + 1 <= 1099511627776; omega)
 have k1 := first_lt hl hn hk f.watches.length c0
 have w1 := wr1 (show (s.most l f.watches.length 40).k < 1099511627776 by unfold Rs.next at k1; simp only at k1; omega)
 unfold watchS
 simp only
 generalize s.most l f.watches.length 40 = s1 at *
 have h0 := side_12 hl hn k1
 have k2 := side_lt hl hn k1
 have h1 := nm_12 hl hn k2
 have k3 := name_lt hl hn k2
 have h2 := nm_12 hl hn k3
 have k4 := name_lt hl hn k3
 have h3 := semi_12 hl hn k4
 have ap := app_one (l := l) hl hn Wt.v f.watches ⟨s1.next.sideN l, (s1.next.side l).nameT l, ((s1.next.side l).name l).nameT l⟩
 rw [Wt.v_mk] at ap
 unfold Rs.triple
 generalize (((s1.next.side l).name l).name l).took l 4 [59] = t5 at *
 generalize (((s1.next.side l).name l).name l).semi l = s6 at *
 generalize ((s1.next.side l).name l).name l = s5 at *
 generalize ((s1.next.side l).name l).nameT l = c at *
 generalize (s1.next.side l).name l = s4 at *
 generalize (s1.next.side l).nameT l = b at *
 generalize s1.next.side l = s3 at *
 generalize s1.next.sideN l = a at *
 unfold Fl.ow in12 Rs.next at *
 rw [ref12_in_line.eq]
 simp only [j0, j1, j2, i0, m, ln, hM, h0, h1, h2, h3, w1, ap, asAgg_tk, tkv_0, tkv_1, tkv_2, tkv_3, lz, lx, if_true, if_false, lb, Int.cast_ofNat_Int]
theorem half_12 {s : Rs} (hk : s.k < l.length) (w : List (List V)) (hw : w.length <= 2) (i : Int) (h0 : 0 <= i) (hi : i < 2) (l6 l7 l8 l9 l10 : List (List V)) :
  ref12_in_line.L1_0_0_1_1_1_0_1_1_1_0_1_0 w i (l.map Tk.v) (s.k : Int) s.e s.a l6 l7 l8 l9 l10 =
  ref12_in_line.L1_0_0_1_1_1_0_1_1_1_0_1_0 ((w ++ [[.str (B (s.halfP l))]]) ++ [[.str (B (s.halfV l))]]) (i + 1) (l.map Tk.v) ((s.half l).k : Int) (s.half l).e (s.half l).a l6 l7 l8 l9 l10 := by
 have c : decide (i < 2) = true := decide_eq_true hi
 have w1 : IntKind.i64.wrap (i + 1) = i + 1 := wrap_in (by omega) (by omega)
 have M1 : ∀ (x : List V) (a b : Option Res), (if w.length + List.length [x] <= most then a else b) = a := fun x a b => if_pos (by show _ + 1 <= 1099511627776; omega)
 have M2 : ∀ (x y : List V) (a b : Option Res), (if (w ++ [x]).length + List.length [y] <= most then a else b) = a := fun x y a b => if_pos (by rw [List.length_append]; show _ + 1 + 1 <= 1099511627776; omega)
 have h1 := nm_12 hl hn hk
 have k1 := name_lt hl hn hk
 have h2 := take_12 hl hn k1 (kind := 4) (by decide) [40]
 have k2 : ((s.name l).take l 4 [40]).k < l.length := take_lt hl hn k1 _ (by decide)
 have h3 := nm_12 hl hn k2
 have k3 := name_lt hl hn k2
 have h4 := take_12 hl hn k3 (kind := 4) (by decide) [41]
 unfold Rs.half Rs.halfP Rs.halfV
 generalize (((s.name l).take l 4 [40]).name l).took l 4 [41] = t4 at *
 generalize (((s.name l).take l 4 [40]).name l).take l 4 [41] = s4 at *
 generalize ((s.name l).take l 4 [40]).name l = s3 at *
 generalize ((s.name l).take l 4 [40]).nameT l = v at *
 generalize (s.name l).took l 4 [40] = t2 at *
 generalize (s.name l).take l 4 [40] = s2 at *
 generalize s.nameT l = p at *
 generalize s.name l = s1 at *
 unfold in12 at *
 rw [ref12_in_line.L1_0_0_1_1_1_0_1_1_1_0_1_0_eq]
 simp only [c, w1, M1, M2, h1, h2, h3, h4, asAgg_tk, tkv_0, tkv_1, tkv_2, tkv_3, lz, lx, if_true, if_false]
theorem half_lt {s : Rs} (hk : s.k < l.length) : (s.half l).k < l.length := take_lt hl hn (name_lt hl hn (take_lt hl hn (name_lt hl hn hk) _ (by decide))) _ (by decide)
theorem line_same_12 {s : Rs} (hk : s.k < l.length) (f : Fl) (hf : f.sames.length <= 1000000) (n0 : s.is l 1 [112, 97, 105, 114] = false) (c0 : s.is l 1 [115, 97, 109, 101] = true) :
  den Sp ref12_in_line.id [.ref 0 0, .agg f.ow] [in12 l s] none = some ⟨.ret (.agg (sameS l s f).2.ow), [in12 l (sameS l s f).1], none⟩ := by
 have j0 := is_12 hl hn hk 1 [112, 97, 105, 114]
 rw [n0] at j0
 have i0 := is_12 hl hn hk 1 [115, 97, 109, 101]
 rw [c0] at i0
 have ln : (f.sames.map Pai.v).length = f.sames.length := List.length_map ..
 have m := most_12 hl hn hk (f.sames.length : Int) 40
 have hM : ∀ (x : List V) (a b : Option Res), (if f.sames.length + List.length [x] <= most then a else b) = a := fun x a b => if_pos (by show _ + 1 <= 1099511627776; omega)
 have k1 := first_lt hl hn hk f.sames.length c0
 have w1 := wr1 (show (s.most l f.sames.length 40).k < 1099511627776 by unfold Rs.next at k1; simp only at k1; omega)
 unfold sameS
 simp only
 generalize s.most l f.sames.length 40 = s1 at *
 have r1 := half_12 hl hn k1 [] (by simp) 0 (by decide) (by decide)
 have k2 := half_lt hl hn k1
 have r2 := half_12 hl hn k2 (([] ++ [[.str (B (s1.next.halfP l))]]) ++ [[.str (B (s1.next.halfV l))]]) (by simp) 1 (by decide) (by decide)
 have k3 := half_lt hl hn k2
 have h3 := semi_12 hl hn k3
 have ap := app_one (l := l) hl hn Pai.v f.sames ⟨s1.next.halfP l, (s1.next.half l).halfP l, s1.next.halfV l, (s1.next.half l).halfV l⟩
 rw [Pai.v_mk] at ap
 generalize ((s1.next.half l).half l).took l 4 [59] = t5 at *
 generalize ((s1.next.half l).half l).semi l = s5 at *
 generalize (s1.next.half l).half l = s4 at *
 generalize (s1.next.half l).halfP l = b1 at *
 generalize (s1.next.half l).halfV l = b2 at *
 generalize s1.next.half l = s3 at *
 generalize s1.next.halfP l = a1 at *
 generalize s1.next.halfV l = a2 at *
 simp only [List.nil_append, List.cons_append, Int.zero_add, show (1 : Int) + 1 = 2 from rfl] at r1 r2
 have r3 : ∀ l6 l7 l8 l9 l10 : List (List V), ref12_in_line.L1_0_0_1_1_1_0_1_1_1_0_1_0 [] 0 (l.map Tk.v) (s1.next.k : Int) s1.next.e s1.next.a l6 l7 l8 l9 l10 = ref12_in_line.L1_0_0_1_1_1_0_1_1_1_0_1_0 [[.str (B a1)], [.str (B a2)], [.str (B b1)], [.str (B b2)]] 2 (l.map Tk.v) (s4.k : Int) s4.e s4.a l6 l7 l8 l9 l10 := fun l6 l7 l8 l9 l10 => (r1 l6 l7 l8 l9 l10).trans (r2 l6 l7 l8 l9 l10)
 clear r1 r2
 have d2 : decide ((2 : Int) < 2) = false := by decide
 have q0 : ((0 : Int) <= 0 ∧ (0 : Int) < (([[V.str (B a1)], [.str (B a2)], [.str (B b1)], [.str (B b2)]].length : Nat) : Int)) := by simp
 have q1 : ((0 : Int) <= 1 ∧ (1 : Int) < (([[V.str (B a1)], [.str (B a2)], [.str (B b1)], [.str (B b2)]].length : Nat) : Int)) := by simp
 have q2 : ((0 : Int) <= 2 ∧ (2 : Int) < (([[V.str (B a1)], [.str (B a2)], [.str (B b1)], [.str (B b2)]].length : Nat) : Int)) := by simp
 have q3 : ((0 : Int) <= 3 ∧ (3 : Int) < (([[V.str (B a1)], [.str (B a2)], [.str (B b1)], [.str (B b2)]].length : Nat) : Int)) := by simp
 unfold Fl.ow in12 Rs.next at *
 rw [ref12_in_line.eq]
 simp only [j0, i0, m, ln, hM, r3, w1, lz, lx, if_true, if_false, lb, Int.cast_ofNat_Int]
 rw [ref12_in_line.L1_0_0_1_1_1_0_1_1_1_0_1_0_eq]
 simp only [d2, if_pos q0, if_pos q1, if_pos q2, if_pos q3, ln, hM, h3, ap, asAgg_tk, tkv_0, tkv_1, tkv_2, tkv_3, lz, lx, if_true, if_false, lb, Int.cast_ofNat_Int, List.getD_cons_zero, List.getD_cons_succ]
theorem line_break_12 {s : Rs} (hk : s.k < l.length) (f : Fl) (hf : f.breaks.length <= 1000000) (n0 : s.is l 1 [112, 97, 105, 114] = false) (n1 : s.is l 1 [115, 97, 109, 101] = false) (n2 : s.is l 1 [107, 101, 101, 112] = false) (n3 : s.is l 1 [119, 97, 116, 99, 104] = false) (hE : ReadsE ref03_ReadExpr.id l) (c0 : s.is l 1 [98, 114, 101, 97, 107] = true) :
  den Sp ref12_in_line.id [.ref 0 0, .agg f.ow] [in12 l s] none = some ⟨.ret (.agg (breakS l s f).2.ow), [in12 l (breakS l s f).1], none⟩ := by
 have j0 := is_12 hl hn hk 1 [112, 97, 105, 114]
 rw [n0] at j0
 have j1 := is_12 hl hn hk 1 [115, 97, 109, 101]
 rw [n1] at j1
 have j2 := is_12 hl hn hk 1 [107, 101, 101, 112]
 rw [n2] at j2
 have j3 := is_12 hl hn hk 1 [119, 97, 116, 99, 104]
 rw [n3] at j3
 have i0 := is_12 hl hn hk 1 [98, 114, 101, 97, 107]
 rw [c0] at i0
 have ln : (f.breaks.map Bk.v).length = f.breaks.length := List.length_map ..
 have m := most_12 hl hn hk (f.breaks.length : Int) 40
 have hM : ∀ (x : List V) (a b : Option Res), (if f.breaks.length + List.length [x] <= most then a else b) = a := fun x a b => if_pos (by show _ + 1 <= 1099511627776; omega)
 have k1 := first_lt hl hn hk f.breaks.length c0
 have w1 := wr1 (show (s.most l f.breaks.length 40).k < 1099511627776 by unfold Rs.next at k1; simp only at k1; omega)
 unfold breakS
 simp only
 generalize s.most l f.breaks.length 40 = s1 at *
 have h0 := side_12 hl hn k1
 have k2 := side_lt hl hn k1
 have h1 := nm_12 hl hn k2
 have k3 := name_lt hl hn k2
 have h2 := take_12 hl hn k3 (kind := 2) (by decide) []
 have k4 : (((s1.next.side l).name l).take l 2 []).k < l.length := take_lt hl hn k3 _ (by decide)
 have h3 := is_12 hl hn k4 1 [119, 104, 101, 110]
 generalize ((s1.next.side l).name l).took l 2 [] = t4 at *
 generalize ((s1.next.side l).name l).take l 2 [] = s5 at *
 generalize (s1.next.side l).name l = s4 at *
 generalize (s1.next.side l).nameT l = b at *
 generalize s1.next.side l = s3 at *
 generalize s1.next.sideN l = a at *
 cases cw : s5.is l 1 [119, 104, 101, 110] with
 | false =>
  rw [if_neg (by simp)]
  rw [cw] at h3
  have h4 := semi_12 hl hn k4
  have ap := app_one (l := l) hl hn Bk.v f.breaks ⟨a, b, t4.num, []⟩
  rw [Bk.v_mk] at ap
  simp only [List.map_nil] at ap
  generalize s5.semi l = s6 at *
  generalize s5.took l 4 [59] = t6 at *
  unfold Fl.ow in12 Rs.next at *
  rw [ref12_in_line.eq]
  simp only [j0, j1, j2, j3, i0, m, ln, hM, h0, h1, h2, h3, h4, w1, ap, asAgg_tk, tkv_0, tkv_1, tkv_2, tkv_3, lz, lx, if_true, if_false, lb, Int.cast_ofNat_Int]
 | true =>
  rw [if_pos rfl]
  rw [cw] at h3
  have k5 := next_lt hl hn k4 (by decide) cw
  have w5 := wr1 (show s5.k < 1099511627776 by omega)
  have hr := hE s5.next.k k5
  unfold readE at hr
  cases hq : partR l 1 s5.next.k (tightW l 1 1 s5.next.k) with
  | error e =>
   rw [hq] at hr
   have e0 : (e.2 != 0) = true := by
    have := rd_err hl k5 hq
    simpa using this
   simp only
   unfold Fl.ow in12 Rs.next at *
   rw [ref12_in_line.eq]
   simp only [j0, j1, j2, j3, i0, m, ln, hM, h0, h1, h2, h3, w1, w5, hr, e0, asAgg_tk, tkv_0, tkv_1, tkv_2, tkv_3, lz, lx, if_true, if_false, lb, Int.cast_ofNat_Int]
  | ok p =>
   obtain ⟨x, j⟩ := p
   rw [hq] at hr
   have kj := (tight_goes hl k5 (partR_ok hq)).2
   have h4 := semi_12 hl hn (s := ⟨j, s5.e, s5.a⟩) kj
   have ap := app_one (l := l) hl hn Bk.v f.breaks ⟨a, b, t4.num, [x]⟩
   rw [Bk.v_mk] at ap
   simp only [List.map_cons, List.map_nil] at ap
   simp only
   generalize Rs.semi l ⟨j, s5.e, s5.a⟩ = s6 at *
   generalize Rs.took l ⟨j, s5.e, s5.a⟩ 4 [59] = t6 at *
   unfold Fl.ow in12 Rs.next at *
   rw [ref12_in_line.eq]
   simp only [j0, j1, j2, j3, i0, m, ln, hM, h0, h1, h2, h3, h4, w1, w5, hr, ap, asAgg_tk, tkv_0, tkv_1, tkv_2, tkv_3, lz, lx, if_true, if_false, lb, Int.cast_ofNat_Int]
theorem line_12 {s : Rs} (hE : ReadsE ref03_ReadExpr.id l) (hk : s.k < l.length) (f : Fl) (h1 : f.pairs.length <= 1000000) (h2 : f.sames.length <= 1000000) (h3 : f.keeps.length <= 1000000) (h4 : f.watches.length <= 1000000) (h5 : f.breaks.length <= 1000000) :
  den Sp ref12_in_line.id [.ref 0 0, .agg f.ow] [in12 l s] none = some ⟨.ret (.agg (lineS l s f).2.ow), [in12 l (lineS l s f).1], none⟩ := by
 unfold lineS
 cases n0 : s.is l 1 [112, 97, 105, 114] with
 | true => rw [if_pos rfl]; exact line_pair_12 hl hn hk f h1  n0
 | false =>
 rw [if_neg (by simp)]
 cases n1 : s.is l 1 [115, 97, 109, 101] with
 | true => rw [if_pos rfl]; exact line_same_12 hl hn hk f h2 n0 n1
 | false =>
 rw [if_neg (by simp)]
 cases n2 : s.is l 1 [107, 101, 101, 112] with
 | true => rw [if_pos rfl]; exact line_keep_12 hl hn hk f h3 n0 n1 n2
 | false =>
 rw [if_neg (by simp)]
 cases n3 : s.is l 1 [119, 97, 116, 99, 104] with
 | true => rw [if_pos rfl]; exact line_watch_12 hl hn hk f h4 n0 n1 n2 n3
 | false =>
 rw [if_neg (by simp)]
 cases n4 : s.is l 1 [98, 114, 101, 97, 107] with
 | true => rw [if_pos rfl]; exact line_break_12 hl hn hk f h5 n0 n1 n2 n3 hE n4
 | false =>
 rw [if_neg (by simp)]
 have j0 := is_12 hl hn hk 1 [112, 97, 105, 114]
 rw [n0] at j0
 have j1 := is_12 hl hn hk 1 [115, 97, 109, 101]
 rw [n1] at j1
 have j2 := is_12 hl hn hk 1 [107, 101, 101, 112]
 rw [n2] at j2
 have j3 := is_12 hl hn hk 1 [119, 97, 116, 99, 104]
 rw [n3] at j3
 have j4 := is_12 hl hn hk 1 [98, 114, 101, 97, 107]
 rw [n4] at j4
 have hf := fail_12 hl hn hk 30
 have kf : (s.fail l 30).k < l.length := by rw [Rs.fail_k]; exact hk
 have hs := semi_12 hl hn kf
 simp only
 generalize (s.fail l 30).took l 4 [59] = t6 at *
 generalize (s.fail l 30).semi l = s2 at *
 generalize s.fail l 30 = s1 at *
 unfold Fl.ow in12 at *
 rw [ref12_in_line.eq]
 simp only [j0, j1, j2, j3, j4, hf, hs, asAgg_tk, tkv_0, tkv_1, tkv_2, tkv_3, lz, lx, if_true, if_false, lb, Int.cast_ofNat_Int]
end
end Go.Proofs.YtmhnmelaodhemaaGreatDoor
namespace Go.Proofs.YtmhnmelaodhemaaGreatDoor
open Go Go.Proofs.Ab
namespace syntax_tokens_wrong
theorem eq (m0_0 : List (List V)) (m0_1 : Int) : den Sp id [V.ref 0 0] [Blk.cells T_syntax_tokens [V.sl .no T_api_Token m0_0, V.int .i64 m0_1] false] none =
  (if (((0 : Int) <= m0_1) ∧ (m0_1 < (m0_0.length : Int))) then (V.asInt (List.getD (List.getD m0_0 (Int.toNat m0_1) []) 3 V.undef) .i64 (fun n3 => some ⟨Out.pan (V.iface T_syntax_given (V.agg [V.int .i64 n3, V.int .i64 (30 : Int)])), [Blk.cells T_syntax_tokens [V.sl .no T_api_Token m0_0, V.int .i64 m0_1] false], none⟩)) else none) := (den_eq ..).trans (by kernel_rfl)
end syntax_tokens_wrong
namespace syntax_tokens_is
theorem eq (m0_0 : List (List V)) (m0_1 : Int) (a1 : ByteArray) : den Sp id [V.ref 0 0, V.str a1] [Blk.cells T_syntax_tokens [V.sl .no T_api_Token m0_0, V.int .i64 m0_1] false] none =
  (if (((0 : Int) <= m0_1) ∧ (m0_1 < (m0_0.length : Int))) then (V.asInt (List.getD (List.getD m0_0 (Int.toNat m0_1) []) 0 V.undef) .i64 (fun n5 => V.asStr (List.getD (List.getD m0_0 (Int.toNat m0_1) []) 1 V.undef) (fun s6 => V.asInt (List.getD (List.getD m0_0 (Int.toNat m0_1) []) 2 V.undef) .i64 (fun n7 => V.asInt (List.getD (List.getD m0_0 (Int.toNat m0_1) []) 3 V.undef) .i64 (fun n8 => bif (n5 == (3 : Int)) then (some ⟨Out.ret (V.bool (decide (s6 = a1))), [Blk.cells T_syntax_tokens [V.sl .no T_api_Token m0_0, V.int .i64 m0_1] false], none⟩) else (bif (n5 == (4 : Int)) then (some ⟨Out.ret (V.bool (decide (s6 = a1))), [Blk.cells T_syntax_tokens [V.sl .no T_api_Token m0_0, V.int .i64 m0_1] false], none⟩) else (some ⟨Out.ret (V.bool false), [Blk.cells T_syntax_tokens [V.sl .no T_api_Token m0_0, V.int .i64 m0_1] false], none⟩))))))) else none) := (den_eq ..).trans (by kernel_rfl)
end syntax_tokens_is
namespace syntax_tokens_has
theorem eq (m0_0 : List (List V)) (m0_1 : Int) (a1 : ByteArray) : den Sp id [V.ref 0 0, V.str a1] [Blk.cells T_syntax_tokens [V.sl .no T_api_Token m0_0, V.int .i64 m0_1] false] none =
  (den Sp syntax_tokens_is.id [V.ref 0 0, V.str a1] [Blk.cells T_syntax_tokens [V.sl .no T_api_Token m0_0, V.int .i64 m0_1] false] none).bind (fun r5 => Blk.asCells (List.getD (Res.bl r5) 0 (Blk.cells T_n0 [] true)) T_syntax_tokens 2 (fun rd6 => V.asSl (rd6 0) T_api_Token (fun es7 => V.asInt (rd6 1) .i64 (fun n8 => Res.onRet r5 (fun v9 => V.asBool v9 (fun b10 => bif (!b10) then (some ⟨Out.ret (V.bool false), [Blk.cells T_syntax_tokens [V.sl .no T_api_Token es7, V.int .i64 n8] false], none⟩) else (some ⟨Out.ret (V.bool true), [Blk.cells T_syntax_tokens [V.sl .no T_api_Token es7, V.int .i64 (IntKind.wrap .i64 (n8 + (1 : Int)))] false], none⟩))))))) := (den_eq ..).trans (by kernel_rfl)
end syntax_tokens_has
namespace syntax_tokens_need
theorem eq (m0_0 : List (List V)) (m0_1 : Int) (a1 : ByteArray) : den Sp id [V.ref 0 0, V.str a1] [Blk.cells T_syntax_tokens [V.sl .no T_api_Token m0_0, V.int .i64 m0_1] false] none =
  (den Sp syntax_tokens_has.id [V.ref 0 0, V.str a1] [Blk.cells T_syntax_tokens [V.sl .no T_api_Token m0_0, V.int .i64 m0_1] false] none).bind (fun r4 => Blk.asCells (List.getD (Res.bl r4) 0 (Blk.cells T_n0 [] true)) T_syntax_tokens 2 (fun rd5 => V.asSl (rd5 0) T_api_Token (fun es6 => V.asInt (rd5 1) .i64 (fun n7 => Res.onRet r4 (fun v8 => V.asBool v8 (fun b9 => bif (!b9) then (den Sp syntax_tokens_wrong.id [V.ref 0 0] [Blk.cells T_syntax_tokens [V.sl .no T_api_Token es6, V.int .i64 n7] false] none).bind (fun r11 => Blk.asCells (List.getD (Res.bl r11) 0 (Blk.cells T_n0 [] true)) T_syntax_tokens 2 (fun rd12 => V.asSl (rd12 0) T_api_Token (fun es13 => V.asInt (rd12 1) .i64 (fun n14 => Res.onOut r11 (fun v15 => V.asTup v15 0 (fun rd16 => some ⟨Out.ret (V.tup []), [Blk.cells T_syntax_tokens [V.sl .no T_api_Token es13, V.int .i64 n14] false], none⟩)) (fun v15 => V.asIface v15 T_syntax_given (fun w16 => V.asAgg w16 2 (fun rd17 => V.asInt (rd17 0) .i64 (fun n18 => V.asInt (rd17 1) .i64 (fun n19 => some ⟨Out.pan (V.iface T_syntax_given (V.agg [V.int .i64 n18, V.int .i64 n19])), [Blk.cells T_syntax_tokens [V.sl .no T_api_Token es13, V.int .i64 n14] false], none⟩))))))))) else (some ⟨Out.ret (V.tup []), [Blk.cells T_syntax_tokens [V.sl .no T_api_Token es6, V.int .i64 n7] false], none⟩))))))) := (den_eq ..).trans (by kernel_rfl)
end syntax_tokens_need
namespace syntax_tokens_name
theorem eq (m0_0 : List (List V)) (m0_1 : Int) : den Sp id [V.ref 0 0] [Blk.cells T_syntax_tokens [V.sl .no T_api_Token m0_0, V.int .i64 m0_1] false] none =
  (if (((0 : Int) <= m0_1) ∧ (m0_1 < (m0_0.length : Int))) then (V.asInt (List.getD (List.getD m0_0 (Int.toNat m0_1) []) 0 V.undef) .i64 (fun n4 => V.asStr (List.getD (List.getD m0_0 (Int.toNat m0_1) []) 1 V.undef) (fun s5 => V.asInt (List.getD (List.getD m0_0 (Int.toNat m0_1) []) 2 V.undef) .i64 (fun n6 => V.asInt (List.getD (List.getD m0_0 (Int.toNat m0_1) []) 3 V.undef) .i64 (fun n7 => bif (n4 != (1 : Int)) then (den Sp syntax_tokens_wrong.id [V.ref 0 0] [Blk.cells T_syntax_tokens [V.sl .no T_api_Token m0_0, V.int .i64 m0_1] false] none).bind (fun r10 => Blk.asCells (List.getD (Res.bl r10) 0 (Blk.cells T_n0 [] true)) T_syntax_tokens 2 (fun rd11 => V.asSl (rd11 0) T_api_Token (fun es12 => V.asInt (rd11 1) .i64 (fun n13 => Res.onOut r10 (fun v14 => V.asTup v14 0 (fun rd15 => some ⟨Out.ret (V.str s5), [Blk.cells T_syntax_tokens [V.sl .no T_api_Token es12, V.int .i64 (IntKind.wrap .i64 (n13 + (1 : Int)))] false], none⟩)) (fun v14 => V.asIface v14 T_syntax_given (fun w15 => V.asAgg w15 2 (fun rd16 => V.asInt (rd16 0) .i64 (fun n17 => V.asInt (rd16 1) .i64 (fun n18 => some ⟨Out.pan (V.iface T_syntax_given (V.agg [V.int .i64 n17, V.int .i64 n18])), [Blk.cells T_syntax_tokens [V.sl .no T_api_Token es12, V.int .i64 n13] false], none⟩))))))))) else (some ⟨Out.ret (V.str s5), [Blk.cells T_syntax_tokens [V.sl .no T_api_Token m0_0, V.int .i64 (IntKind.wrap .i64 (m0_1 + (1 : Int)))] false], none⟩)))))) else none) := (den_eq ..).trans (by kernel_rfl)
end syntax_tokens_name
namespace syntax_tokens_deep
theorem eq (m0_0 : List (List V)) (m0_1 a1 : Int) (a2 : Bool) : den Sp id [V.ref 0 0, V.int .i64 a1, V.bool a2] [Blk.cells T_syntax_tokens [V.sl .no T_api_Token m0_0, V.int .i64 m0_1] false] none =
  (bif (!a2) then (den Sp syntax_tokens_wrong.id [V.ref 0 0] [Blk.cells T_syntax_tokens [V.sl .no T_api_Token m0_0, V.int .i64 m0_1] false] none).bind (fun r6 => Blk.asCells (List.getD (Res.bl r6) 0 (Blk.cells T_n0 [] true)) T_syntax_tokens 2 (fun rd7 => V.asSl (rd7 0) T_api_Token (fun es8 => V.asInt (rd7 1) .i64 (fun n9 => Res.onOut r6 (fun v10 => V.asTup v10 0 (fun rd11 => bif (decide (a1 > (60 : Int))) then (if (((0 : Int) <= n9) ∧ (n9 < (es8.length : Int))) then (V.asInt (List.getD (List.getD es8 (Int.toNat n9) []) 3 V.undef) .i64 (fun n14 => some ⟨Out.pan (V.iface T_syntax_given (V.agg [V.int .i64 n14, V.int .i64 (31 : Int)])), [Blk.cells T_syntax_tokens [V.sl .no T_api_Token es8, V.int .i64 n9] false], none⟩)) else none) else (some ⟨Out.ret (V.tup []), [Blk.cells T_syntax_tokens [V.sl .no T_api_Token es8, V.int .i64 n9] false], none⟩))) (fun v10 => V.asIface v10 T_syntax_given (fun w11 => V.asAgg w11 2 (fun rd12 => V.asInt (rd12 0) .i64 (fun n13 => V.asInt (rd12 1) .i64 (fun n14 => some ⟨Out.pan (V.iface T_syntax_given (V.agg [V.int .i64 n13, V.int .i64 n14])), [Blk.cells T_syntax_tokens [V.sl .no T_api_Token es8, V.int .i64 n9] false], none⟩))))))))) else (bif (decide (a1 > (60 : Int))) then (if (((0 : Int) <= m0_1) ∧ (m0_1 < (m0_0.length : Int))) then (V.asInt (List.getD (List.getD m0_0 (Int.toNat m0_1) []) 3 V.undef) .i64 (fun n7 => some ⟨Out.pan (V.iface T_syntax_given (V.agg [V.int .i64 n7, V.int .i64 (31 : Int)])), [Blk.cells T_syntax_tokens [V.sl .no T_api_Token m0_0, V.int .i64 m0_1] false], none⟩)) else none) else (some ⟨Out.ret (V.tup []), [Blk.cells T_syntax_tokens [V.sl .no T_api_Token m0_0, V.int .i64 m0_1] false], none⟩))) := (den_eq ..).trans (by kernel_rfl)
end syntax_tokens_deep
namespace syntax_reader_begins
theorem eq (m0_0 : List (List V)) (m0_1 : Int) (m0_2 : List (List V)) : den Sp id [V.ref 0 0] [Blk.cells T_syntax_reader [V.sl .no T_api_Token m0_0, V.int .i64 m0_1, V.sl .no T_L_int m0_2] false] none =
  (if (((0 : Int) <= m0_1) ∧ (m0_1 < (m0_0.length : Int))) then (V.asInt (List.getD (List.getD m0_0 (Int.toNat m0_1) []) 0 V.undef) .i64 (fun n5 => V.asStr (List.getD (List.getD m0_0 (Int.toNat m0_1) []) 1 V.undef) (fun s6 => V.asInt (List.getD (List.getD m0_0 (Int.toNat m0_1) []) 2 V.undef) .i64 (fun n7 => V.asInt (List.getD (List.getD m0_0 (Int.toNat m0_1) []) 3 V.undef) .i64 (fun n8 => bif (n5 == (1 : Int)) then (some ⟨Out.ret (V.bool true), [Blk.cells T_syntax_reader [V.sl .no T_api_Token m0_0, V.int .i64 m0_1, V.sl .no T_L_int m0_2] false], none⟩) else (bif (n5 == (2 : Int)) then (some ⟨Out.ret (V.bool true), [Blk.cells T_syntax_reader [V.sl .no T_api_Token m0_0, V.int .i64 m0_1, V.sl .no T_L_int m0_2] false], none⟩) else (den Sp syntax_tokens_is.id [V.ref 0 0, V.str (ByteArray.mk #[116, 114, 117, 101])] [Blk.cells T_syntax_tokens [V.sl .no T_api_Token m0_0, V.int .i64 m0_1] false] none).bind (fun r10 => Blk.asCells (List.getD (Res.bl r10) 0 (Blk.cells T_n0 [] true)) T_syntax_tokens 2 (fun rd11 => V.asSl (rd11 0) T_api_Token (fun es12 => V.asInt (rd11 1) .i64 (fun n13 => Res.onRet r10 (fun v14 => V.asBool v14 (fun b15 => bif b15 then (some ⟨Out.ret (V.bool true), [Blk.cells T_syntax_reader [V.sl .no T_api_Token es12, V.int .i64 n13, V.sl .no T_L_int m0_2] false], none⟩) else (den Sp syntax_tokens_is.id [V.ref 0 0, V.str (ByteArray.mk #[102, 97, 108, 115, 101])] [Blk.cells T_syntax_tokens [V.sl .no T_api_Token es12, V.int .i64 n13] false] none).bind (fun r16 => Blk.asCells (List.getD (Res.bl r16) 0 (Blk.cells T_n0 [] true)) T_syntax_tokens 2 (fun rd17 => V.asSl (rd17 0) T_api_Token (fun es18 => V.asInt (rd17 1) .i64 (fun n19 => Res.onRet r16 (fun v20 => V.asBool v20 (fun b21 => bif b21 then (some ⟨Out.ret (V.bool true), [Blk.cells T_syntax_reader [V.sl .no T_api_Token es18, V.int .i64 n19, V.sl .no T_L_int m0_2] false], none⟩) else (den Sp syntax_tokens_is.id [V.ref 0 0, V.str (ByteArray.mk #[40])] [Blk.cells T_syntax_tokens [V.sl .no T_api_Token es18, V.int .i64 n19] false] none).bind (fun r22 => Blk.asCells (List.getD (Res.bl r22) 0 (Blk.cells T_n0 [] true)) T_syntax_tokens 2 (fun rd23 => V.asSl (rd23 0) T_api_Token (fun es24 => V.asInt (rd23 1) .i64 (fun n25 => Res.onRet r22 (fun v26 => V.asBool v26 (fun b27 => bif b27 then (some ⟨Out.ret (V.bool true), [Blk.cells T_syntax_reader [V.sl .no T_api_Token es24, V.int .i64 n25, V.sl .no T_L_int m0_2] false], none⟩) else (den Sp syntax_tokens_is.id [V.ref 0 0, V.str (ByteArray.mk #[45])] [Blk.cells T_syntax_tokens [V.sl .no T_api_Token es24, V.int .i64 n25] false] none).bind (fun r28 => Blk.asCells (List.getD (Res.bl r28) 0 (Blk.cells T_n0 [] true)) T_syntax_tokens 2 (fun rd29 => V.asSl (rd29 0) T_api_Token (fun es30 => V.asInt (rd29 1) .i64 (fun n31 => Res.onRet r28 (fun v32 => V.asBool v32 (fun b33 => bif b33 then (some ⟨Out.ret (V.bool true), [Blk.cells T_syntax_reader [V.sl .no T_api_Token es30, V.int .i64 n31, V.sl .no T_L_int m0_2] false], none⟩) else (den Sp syntax_tokens_is.id [V.ref 0 0, V.str (ByteArray.mk #[33])] [Blk.cells T_syntax_tokens [V.sl .no T_api_Token es30, V.int .i64 n31] false] none).bind (fun r34 => Blk.asCells (List.getD (Res.bl r34) 0 (Blk.cells T_n0 [] true)) T_syntax_tokens 2 (fun rd35 => V.asSl (rd35 0) T_api_Token (fun es36 => V.asInt (rd35 1) .i64 (fun n37 => Res.onRet r34 (fun v38 => V.asBool v38 (fun b39 => some ⟨Out.ret (V.bool b39), [Blk.cells T_syntax_reader [V.sl .no T_api_Token es36, V.int .i64 n37, V.sl .no T_L_int m0_2] false], none⟩)))))))))))))))))))))))))))))))))))) else none) := (den_eq ..).trans (by kernel_rfl)
end syntax_reader_begins
namespace syntax_reader_sign
theorem eq (m0_0 : List (List V)) (m0_1 : Int) (m0_2 : List (List V)) (a1 : Int) : den Sp id [V.ref 0 0, V.int .i64 a1] [Blk.cells T_syntax_reader [V.sl .no T_api_Token m0_0, V.int .i64 m0_1, V.sl .no T_L_int m0_2] false] none =
  (if (((0 : Int) <= m0_1) ∧ (m0_1 < (m0_0.length : Int))) then (V.asInt (List.getD (List.getD m0_0 (Int.toNat m0_1) []) 0 V.undef) .i64 (fun n6 => V.asStr (List.getD (List.getD m0_0 (Int.toNat m0_1) []) 1 V.undef) (fun s7 => V.asInt (List.getD (List.getD m0_0 (Int.toNat m0_1) []) 2 V.undef) .i64 (fun n8 => V.asInt (List.getD (List.getD m0_0 (Int.toNat m0_1) []) 3 V.undef) .i64 (fun n9 => bif (n6 != (4 : Int)) then (some ⟨Out.ret (V.str (ByteArray.mk #[])), [Blk.cells T_syntax_reader [V.sl .no T_api_Token m0_0, V.int .i64 m0_1, V.sl .no T_L_int m0_2] false], none⟩) else (den Sp syntax_level.id [V.str s7] [] none).bind (fun r11 => Res.onRet r11 (fun v12 => V.asInt v12 .i64 (fun n13 => bif (n13 != a1) then (some ⟨Out.ret (V.str (ByteArray.mk #[])), [Blk.cells T_syntax_reader [V.sl .no T_api_Token m0_0, V.int .i64 m0_1, V.sl .no T_L_int m0_2] false], none⟩) else (some ⟨Out.ret (V.str s7), [Blk.cells T_syntax_reader [V.sl .no T_api_Token m0_0, V.int .i64 m0_1, V.sl .no T_L_int m0_2] false], none⟩))))))))) else none) := (den_eq ..).trans (by kernel_rfl)
end syntax_reader_sign
namespace syntax_level
theorem eq (a0 : ByteArray) : den Sp id [V.str a0] [] none =
  (bif (decide (a0 = (ByteArray.mk #[124, 124]))) then (some ⟨Out.ret (V.int .i64 (1 : Int)), [], none⟩) else (bif (decide (a0 = (ByteArray.mk #[38, 38]))) then (some ⟨Out.ret (V.int .i64 (2 : Int)), [], none⟩) else (bif (decide (a0 = (ByteArray.mk #[61, 61]))) then (some ⟨Out.ret (V.int .i64 (3 : Int)), [], none⟩) else (bif (decide (a0 = (ByteArray.mk #[33, 61]))) then (some ⟨Out.ret (V.int .i64 (3 : Int)), [], none⟩) else (bif (decide (a0 = (ByteArray.mk #[60]))) then (some ⟨Out.ret (V.int .i64 (3 : Int)), [], none⟩) else (bif (decide (a0 = (ByteArray.mk #[60, 61]))) then (some ⟨Out.ret (V.int .i64 (3 : Int)), [], none⟩) else (bif (decide (a0 = (ByteArray.mk #[43]))) then (some ⟨Out.ret (V.int .i64 (4 : Int)), [], none⟩) else (bif (decide (a0 = (ByteArray.mk #[45]))) then (some ⟨Out.ret (V.int .i64 (4 : Int)), [], none⟩) else (bif (decide (a0 = (ByteArray.mk #[42]))) then (some ⟨Out.ret (V.int .i64 (5 : Int)), [], none⟩) else (bif (decide (a0 = (ByteArray.mk #[47]))) then (some ⟨Out.ret (V.int .i64 (5 : Int)), [], none⟩) else (bif (decide (a0 = (ByteArray.mk #[37]))) then (some ⟨Out.ret (V.int .i64 (5 : Int)), [], none⟩) else (some ⟨Out.ret (V.int .i64 (0 : Int)), [], none⟩)))))))))))) := (den_eq ..).trans (by kernel_rfl)
end syntax_level
end Go.Proofs.YtmhnmelaodhemaaGreatDoor
namespace Go.Proofs.YtmhnmelaodhemaaGreatDoor
open Go Go.Proofs.Ab Go.Proofs.Px
attribute [local congr] bind_h asInt_h asBool_h asStr_h asSl_h asSlR_h asAgg_h asTup_h asIface_h asCells_h onRet_h onOut_h cond_h
def tkB (l : List Tk) (k : Nat) : Blk := .cells T_syntax_tokens [.sl .no T_api_Token (l.map Tk.v), .int .i64 k] false
def rsB (l : List Tk) (k : Nat) (ps : List (List V)) : Blk := .cells T_syntax_reader [.sl .no T_api_Token (l.map Tk.v), .int .i64 k, .sl .no T_L_int ps] false
def givenS (e : Int × Int) : V := .iface T_syntax_given (.agg [.int .i64 e.1, .int .i64 e.2])
def RsT {α : Type} (l : List Tk) (v : α -> V) (r : Rf α) (o : Option Res) : Prop := match r with
 | .ok (x, j) => o = some ⟨.ret (v x), [tkB l j], none⟩
 | .error e => ∃ j : Nat, o = some ⟨.pan (givenS e), [tkB l j], none⟩
def RsX (l : List Tk) (ps : List (List V)) (r : Rd) (o : Option Res) : Prop := match r with
 | .ok (x, j) => o = some ⟨.ret (.agg x.v), [rsB l j ps], none⟩
 | .error e => ∃ j : Nat, o = some ⟨.pan (givenS e), [rsB l j ps], none⟩
section
variable {l : List Tk} (hn : l.length <= 100000)
include hn
theorem wrong_s {k : Nat} (hk : k < l.length) : den Sp syntax_tokens_wrong.id [.ref 0 0] [tkB l k] none = some ⟨.pan (givenS ((tk l k).at_, 30)), [tkB l k], none⟩ := by
 have r := row_in hk
 unfold tkB givenS
 rw [syntax_tokens_wrong.eq]
 simp only [if_pos r, Int.toNat_natCast, tok_g hk, tkv_0, tkv_1, tkv_2, tkv_3, lz, lx, if_true, if_false]
theorem is_s {k : Nat} (hk : k < l.length) (s : List UInt8) : den Sp syntax_tokens_is.id [.ref 0 0, .str (B s)] [tkB l k] none = some ⟨.ret (.bool (isT (tk l k) s)), [tkB l k], none⟩ := by
 have r := row_in hk
 unfold tkB isT
 rw [syntax_tokens_is.eq]
 simp only [if_pos r, Int.toNat_natCast, tok_g hk, tkv_0, tkv_1, tkv_2, tkv_3, lz, lx, if_true, if_false]
 by_cases c1 : (tk l k).text = s <;> by_cases c2 : (tk l k).kind = 3 <;> by_cases c3 : (tk l k).kind = 4 <;> simp [c1, c2, c3]
theorem has_s {k : Nat} (hk : k < l.length) (s : List UInt8) : den Sp syntax_tokens_has.id [.ref 0 0, .str (B s)] [tkB l k] none = some ⟨.ret (.bool (isT (tk l k) s)), [if isT (tk l k) s = true then tkB l (k + 1) else tkB l k], none⟩ := by
 have h := is_s hn hk s
 have w := wr1 (show k < 1099511627776 by omega)
 unfold tkB at *
 rw [syntax_tokens_has.eq]
 cases c : isT (tk l k) s <;> rw [c] at h <;> simp only [h, w, lz, lx, if_true, if_false]
theorem need_s {k : Nat} (hk : k < l.length) (s : List UInt8) : RsT l (fun _ : Unit => .tup []) (if isT (tk l k) s then .ok ((), k + 1) else .error ((tk l k).at_, 30)) (den Sp syntax_tokens_need.id [.ref 0 0, .str (B s)] [tkB l k] none) := by
 have h := has_s hn hk s
 have h2 := wrong_s hn hk
 unfold RsT
 cases c : isT (tk l k) s with
 | true =>
  rw [c] at h
  simp only [if_true] at h ⊢
  unfold tkB at *
  rw [syntax_tokens_need.eq]
  simp only [h, lz, lx, if_true, if_false]
 | false =>
  rw [c] at h
  simp only [Bool.false_eq_true, if_false] at h ⊢
  refine ⟨k, ?_⟩
  unfold tkB givenS at *
  rw [syntax_tokens_need.eq]
  simp only [h, h2, lz, lx, if_true, if_false]
theorem name_s {k : Nat} (hk : k < l.length) : RsT l (fun s => .str (B s)) (nameR l k) (den Sp syntax_tokens_name.id [.ref 0 0] [tkB l k] none) := by
 have h2 := wrong_s hn hk
 have r := row_in hk
 have w := wr1 (show k < 1099511627776 by omega)
 unfold RsT nameR wrongR
 by_cases c : (tk l k).kind = 1
 ·have c' : ((tk l k).kind != 1) = false := by simpa using c
  rw [if_pos c]
  simp only
  unfold tkB givenS at *
  rw [syntax_tokens_name.eq]
  simp only [if_pos r, Int.toNat_natCast, tok_g hk, tkv_0, tkv_1, tkv_2, tkv_3, c', w, lz, lx, if_true, if_false]
 ·have c' : ((tk l k).kind != 1) = true := by simpa using c
  rw [if_neg c]
  refine ⟨k, ?_⟩
  unfold tkB givenS at *
  rw [syntax_tokens_name.eq]
  simp only [if_pos r, Int.toNat_natCast, tok_g hk, tkv_0, tkv_1, tkv_2, tkv_3, c', h2, w, lz, lx, if_true, if_false]
theorem deep_s {k : Nat} (hk : k < l.length) (d : Int) (b : Bool) : RsT l (fun _ : Unit => .tup []) (if b = false then .error ((tk l k).at_, 30) else if 60 < d then .error ((tk l k).at_, 31) else .ok ((), k)) (den Sp syntax_tokens_deep.id [.ref 0 0, .int .i64 d, .bool b] [tkB l k] none) := by
 have h2 := wrong_s hn hk
 have r := row_in hk
 unfold RsT
 cases b with
 | false =>
  rw [if_pos rfl]
  refine ⟨k, ?_⟩
  unfold tkB givenS at *
  rw [syntax_tokens_deep.eq]
  simp only [if_pos r, Int.toNat_natCast, tok_g hk, tkv_0, tkv_1, tkv_2, tkv_3, h2, lz, lx, if_true, if_false]
 | true =>
  rw [if_neg (by simp)]
  by_cases c : 60 < d
  ·rw [if_pos c]
   refine ⟨k, ?_⟩
   have c' : decide (d > 60) = true := decide_eq_true c
   unfold tkB givenS at *
   rw [syntax_tokens_deep.eq]
   simp only [if_pos r, Int.toNat_natCast, tok_g hk, tkv_0, tkv_1, tkv_2, tkv_3, c', lz, lx, if_true, if_false]
  ·rw [if_neg c]
   have c' : decide (d > 60) = false := decide_eq_false c
   unfold tkB givenS at *
   rw [syntax_tokens_deep.eq]
   simp only [if_pos r, Int.toNat_natCast, tok_g hk, tkv_0, tkv_1, tkv_2, tkv_3, c', lz, lx, if_true, if_false]
theorem begins_s {k : Nat} (hk : k < l.length) (ps : List (List V)) : den Sp syntax_reader_begins.id [.ref 0 0] [rsB l k ps] none = some ⟨.ret (.bool (opensT (tk l k))), [rsB l k ps], none⟩ := by
 have h3 := fun s => is_s hn hk s
 have r := row_in hk
 have g : opensT (tk l k) = (decide ((tk l k).kind = 1) || (decide ((tk l k).kind = 2) || (isT (tk l k) [116, 114, 117, 101] || (isT (tk l k) [102, 97, 108, 115, 101] || (isT (tk l k) [40] || (isT (tk l k) [45] || isT (tk l k) [33])))))) := by
  unfold opensT
  simp [Bool.or_assoc]
 rw [g]
 have e1 : ((tk l k).kind == 1) = decide ((tk l k).kind = 1) := by by_cases c : (tk l k).kind = 1 <;> simp [c]
 have e2 : ((tk l k).kind == 2) = decide ((tk l k).kind = 2) := by by_cases c : (tk l k).kind = 2 <;> simp [c]
 unfold rsB tkB at *
 rw [syntax_reader_begins.eq]
 simp only [if_pos r, Int.toNat_natCast, tok_g hk, tkv_0, tkv_1, tkv_2, tkv_3, e1, e2, lz, lx, if_true, if_false]
 generalize decide ((tk l k).kind = 1) = b1
 cases b1 with
 | true => rfl
 | false =>
 generalize decide ((tk l k).kind = 2) = b2
 cases b2 with
 | true => rfl
 | false =>
 simp only [h3, lz, lx, if_true, if_false]
 cases isT (tk l k) [116, 114, 117, 101] with
 | true => rfl
 | false =>
 simp only [h3, lz, lx, if_true, if_false]
 cases isT (tk l k) [102, 97, 108, 115, 101] with
 | true => rfl
 | false =>
 simp only [h3, lz, lx, if_true, if_false]
 cases isT (tk l k) [40] with
 | true => rfl
 | false =>
 simp only [h3, lz, lx, if_true, if_false]
 cases isT (tk l k) [45] with
 | true => rfl
 | false =>
 simp only [h3, lz, lx, if_true, if_false]
 cases isT (tk l k) [33] <;> rfl
theorem level_s (s : List UInt8) : den Sp syntax_level.id [.str (B s)] [] none = some ⟨.ret (.int .i64 (levelT s)), [], none⟩ := by
 rw [syntax_level.eq]
 unfold levelT
 by_cases h1 : s = [124, 124]
 ·subst h1; rfl
 by_cases h2 : s = [38, 38]
 ·subst h2; rfl
 by_cases h3 : s = [61, 61]
 ·subst h3; rfl
 by_cases h4 : s = [33, 61]
 ·subst h4; rfl
 by_cases h5 : s = [60]
 ·subst h5; rfl
 by_cases h6 : s = [60, 61]
 ·subst h6; rfl
 by_cases h7 : s = [43]
 ·subst h7; rfl
 by_cases h8 : s = [45]
 ·subst h8; rfl
 by_cases h9 : s = [42]
 ·subst h9; rfl
 by_cases h10 : s = [47]
 ·subst h10; rfl
 by_cases h11 : s = [37]
 ·subst h11; rfl
 simp [h1, h2, h3, h4, h5, h6, h7, h8, h9, h10, h11]
theorem sign_s {k : Nat} (hk : k < l.length) (ps : List (List V)) (n : Int) (hn1 : 1 <= n) : den Sp syntax_reader_sign.id [.ref 0 0, .int .i64 n] [rsB l k ps] none = some ⟨.ret (.str (B (if signT (tk l k) = n then (tk l k).text else []))), [rsB l k ps], none⟩ := by
 have r := row_in hk
 have hv := level_s hn (tk l k).text
 unfold rsB signT
 rw [syntax_reader_sign.eq]
 by_cases c : (tk l k).kind = 4
 ·have c' : ((tk l k).kind != 4) = false := by simpa using c
  rw [if_pos c]
  by_cases c2 : levelT (tk l k).text = n
  ·have c2' : (levelT (tk l k).text != n) = false := by simpa using c2
   rw [if_pos c2]
   simp only [if_pos r, Int.toNat_natCast, tok_g hk, tkv_0, tkv_1, tkv_2, tkv_3, c', c2', hv, lz, lx, if_true, if_false]
  ·have c2' : (levelT (tk l k).text != n) = true := by simpa using c2
   rw [if_neg c2]
   simp only [if_pos r, Int.toNat_natCast, tok_g hk, tkv_0, tkv_1, tkv_2, tkv_3, c', c2', hv, lz, lx, if_true, if_false]
 ·have c' : ((tk l k).kind != 4) = true := by simpa using c
  rw [if_neg c, if_neg (show ¬ (0 : Int) = n by omega)]
  simp only [if_pos r, Int.toNat_natCast, tok_g hk, tkv_0, tkv_1, tkv_2, tkv_3, c', lz, lx, if_true, if_false]
end
end Go.Proofs.YtmhnmelaodhemaaGreatDoor
namespace Go.Proofs.YtmhnmelaodhemaaGreatDoor
open Go Go.Proofs.Ab
namespace syntax_reader_expr
theorem eq (m0_0 : List (List V)) (m0_1 : Int) (m0_2 : List (List V)) (a1 : Int) : den Sp id [V.ref 0 0, V.int .i64 a1] [Blk.cells T_syntax_reader [V.sl .no T_api_Token m0_0, V.int .i64 m0_1, V.sl .no T_L_int m0_2] false] none =
  (den Sp syntax_reader_begins.id [V.ref 0 0] [Blk.cells T_syntax_reader [V.sl .no T_api_Token m0_0, V.int .i64 m0_1, V.sl .no T_L_int m0_2] false] none).bind (fun r6 => Blk.asCells (List.getD (Res.bl r6) 0 (Blk.cells T_n0 [] true)) T_syntax_reader 3 (fun rd7 => V.asSl (rd7 0) T_api_Token (fun es8 => V.asInt (rd7 1) .i64 (fun n9 => V.asSl (rd7 2) T_L_int (fun es10 => Res.onRet r6 (fun v11 => V.asBool v11 (fun b12 => (den Sp syntax_tokens_deep.id [V.ref 0 0, V.int .i64 a1, V.bool b12] [Blk.cells T_syntax_tokens [V.sl .no T_api_Token es8, V.int .i64 n9] false] none).bind (fun r13 => Blk.asCells (List.getD (Res.bl r13) 0 (Blk.cells T_n0 [] true)) T_syntax_tokens 2 (fun rd14 => V.asSl (rd14 0) T_api_Token (fun es15 => V.asInt (rd14 1) .i64 (fun n16 => Res.onOut r13 (fun v17 => V.asTup v17 0 (fun rd18 => (den Sp syntax_reader_bin.id [V.ref 0 0, V.int .i64 (1 : Int), V.int .i64 a1] [Blk.cells T_syntax_reader [V.sl .no T_api_Token es15, V.int .i64 n16, V.sl .no T_L_int es10] false] none).bind (fun r20 => Blk.asCells (List.getD (Res.bl r20) 0 (Blk.cells T_n0 [] true)) T_syntax_reader 3 (fun rd21 => V.asSl (rd21 0) T_api_Token (fun es22 => V.asInt (rd21 1) .i64 (fun n23 => V.asSl (rd21 2) T_L_int (fun es24 => Res.onOut r20 (fun v25 => V.asAgg v25 4 (fun rd26 => V.asInt (rd26 0) .i64 (fun n27 => V.asStr (rd26 1) (fun s28 => V.asInt (rd26 2) .i64 (fun n29 => V.asSl (rd26 3) T_api_Expr (fun es30 => some ⟨Out.ret (V.agg [V.int .i64 n27, V.str s28, V.int .i64 n29, V.sl .no T_api_Expr es30]), [Blk.cells T_syntax_reader [V.sl .no T_api_Token es22, V.int .i64 n23, V.sl .no T_L_int es24] false], none⟩)))))) (fun v25 => V.asIface v25 T_syntax_given (fun w26 => V.asAgg w26 2 (fun rd27 => V.asInt (rd27 0) .i64 (fun n28 => V.asInt (rd27 1) .i64 (fun n29 => some ⟨Out.pan (V.iface T_syntax_given (V.agg [V.int .i64 n28, V.int .i64 n29])), [Blk.cells T_syntax_reader [V.sl .no T_api_Token es22, V.int .i64 n23, V.sl .no T_L_int es24] false], none⟩)))))))))))) (fun v17 => V.asIface v17 T_syntax_given (fun w18 => V.asAgg w18 2 (fun rd19 => V.asInt (rd19 0) .i64 (fun n20 => V.asInt (rd19 1) .i64 (fun n21 => some ⟨Out.pan (V.iface T_syntax_given (V.agg [V.int .i64 n20, V.int .i64 n21])), [Blk.cells T_syntax_reader [V.sl .no T_api_Token es15, V.int .i64 n16, V.sl .no T_L_int es10] false], none⟩)))))))))))))))) := (den_eq ..).trans (by kernel_rfl)
end syntax_reader_expr
namespace syntax_reader_bin
noncomputable abbrev e (p : List Nat) := ev Sp (den Sp) id Tryz.f179.ntmps (cAt (bodyOf Tryz.f179) p)
noncomputable abbrev cn (n0 : List Nat) := canon Sp id n0
noncomputable abbrev K : K := kFin Sp (den Sp) (Sp.oo id) Tryz.f179 1
noncomputable def L1_1_1_0_1_0 (i0 i1 : Int) (s2 : ByteArray) (l3 : List (List V)) (i4 : Int) (l5 : List (List V)) (i6 : Int) (s7 : ByteArray) (i8 : Int) (l9 : List (List V)) : Option Res := LP (e [1, 1, 1, 0, 1, 0, 0]) (cn [0, 1006, 1007]) (kBlk 0 (kSeq (e [1, 1, 1, 1]) (K))) ([(0, (V.ref 0 0)), (1, (V.int .i64 i0)), (2, (V.int .i64 i1)), (6, (V.ref 1006 0)), (7, (V.ref 1007 0)), (8, (V.str s2))], ⟨[(0, (Blk.cells T_syntax_reader [V.sl .no T_api_Token l3, V.int .i64 i4, V.sl .no T_L_int l5] false)), (1006, (Blk.cells T_api_Expr [V.int .i64 (0 : Int), V.str (ByteArray.mk #[]), V.int .i64 (0 : Int), V.sl (Tok.row 0) T_api_Expr []] false)), (1007, (Blk.cells T_api_Expr [V.int .i64 i6, V.str s7, V.int .i64 i8, V.sl .no T_api_Expr l9] false))], [0], [], [], none⟩)
theorem L1_1_1_0_1_0_eq (i0 i1 : Int) (s2 : ByteArray) (l3 : List (List V)) (i4 : Int) (l5 : List (List V)) (i6 : Int) (s7 : ByteArray) (i8 : Int) (l9 : List (List V)) : L1_1_1_0_1_0 i0 i1 s2 l3 i4 l5 i6 s7 i8 l9 =
  (bif (!(decide (s2 = (ByteArray.mk #[])))) then (den Sp syntax_reader_bin.id [V.ref 0 0, V.int .i64 (IntKind.wrap .i64 (i0 + (1 : Int))), V.int .i64 i1] [Blk.cells T_syntax_reader [V.sl .no T_api_Token l3, V.int .i64 (IntKind.wrap .i64 (i4 + (1 : Int))), V.sl .no T_L_int l5] false] none).bind (fun r40 => Blk.asCells (List.getD (Res.bl r40) 0 (Blk.cells T_n0 [] true)) T_syntax_reader 3 (fun rd41 => V.asSl (rd41 0) T_api_Token (fun es42 => V.asInt (rd41 1) .i64 (fun n43 => V.asSl (rd41 2) T_L_int (fun es44 => Res.onOut r40 (fun v45 => V.asAgg v45 4 (fun rd46 => V.asInt (rd46 0) .i64 (fun n47 => V.asStr (rd46 1) (fun s48 => V.asInt (rd46 2) .i64 (fun n49 => V.asSl (rd46 3) T_api_Expr (fun es50 => bif (i0 == (3 : Int)) then (some ⟨Out.ret (V.agg [V.int .i64 (6 : Int), V.str s2, V.int .i64 (0 : Int), V.sl .no T_api_Expr [[V.int .i64 i6, V.str s7, V.int .i64 i8, V.sl .no T_api_Expr l9], [V.int .i64 n47, V.str s48, V.int .i64 n49, V.sl .no T_api_Expr es50]]]), [Blk.cells T_syntax_reader [V.sl .no T_api_Token es42, V.int .i64 n43, V.sl .no T_L_int es44] false], none⟩) else (den Sp syntax_reader_sign.id [V.ref 0 0, V.int .i64 i0] [Blk.cells T_syntax_reader [V.sl .no T_api_Token es42, V.int .i64 n43, V.sl .no T_L_int es44] false] none).bind (fun r53 => Blk.asCells (List.getD (Res.bl r53) 0 (Blk.cells T_n0 [] true)) T_syntax_reader 3 (fun rd54 => V.asSl (rd54 0) T_api_Token (fun es55 => V.asInt (rd54 1) .i64 (fun n56 => V.asSl (rd54 2) T_L_int (fun es57 => Res.onRet r53 (fun v58 => V.asStr v58 (fun s59 => L1_1_1_0_1_0 i0 i1 s59 es55 n56 es57 (6 : Int) s2 (0 : Int) [[V.int .i64 i6, V.str s7, V.int .i64 i8, V.sl .no T_api_Expr l9], [V.int .i64 n47, V.str s48, V.int .i64 n49, V.sl .no T_api_Expr es50]]))))))))))))) (fun v45 => V.asIface v45 T_syntax_given (fun w46 => V.asAgg w46 2 (fun rd47 => V.asInt (rd47 0) .i64 (fun n48 => V.asInt (rd47 1) .i64 (fun n49 => some ⟨Out.pan (V.iface T_syntax_given (V.agg [V.int .i64 n48, V.int .i64 n49])), [Blk.cells T_syntax_reader [V.sl .no T_api_Token es42, V.int .i64 n43, V.sl .no T_L_int es44] false], none⟩)))))))))) else (some ⟨Out.ret (V.agg [V.int .i64 i6, V.str s7, V.int .i64 i8, V.sl .no T_api_Expr l9]), [Blk.cells T_syntax_reader [V.sl .no T_api_Token l3, V.int .i64 i4, V.sl .no T_L_int l5] false], none⟩)) := (LP_eq ..).trans (by kernel_rfl)
theorem eq (m0_0 : List (List V)) (m0_1 : Int) (m0_2 : List (List V)) (a1 a2 : Int) : den Sp id [V.ref 0 0, V.int .i64 a1, V.int .i64 a2] [Blk.cells T_syntax_reader [V.sl .no T_api_Token m0_0, V.int .i64 m0_1, V.sl .no T_L_int m0_2] false] none =
  (bif (decide (a1 > (5 : Int))) then (den Sp syntax_reader_unary.id [V.ref 0 0, V.int .i64 a2] [Blk.cells T_syntax_reader [V.sl .no T_api_Token m0_0, V.int .i64 m0_1, V.sl .no T_L_int m0_2] false] none).bind (fun r8 => Blk.asCells (List.getD (Res.bl r8) 0 (Blk.cells T_n0 [] true)) T_syntax_reader 3 (fun rd9 => V.asSl (rd9 0) T_api_Token (fun es10 => V.asInt (rd9 1) .i64 (fun n11 => V.asSl (rd9 2) T_L_int (fun es12 => Res.onOut r8 (fun v13 => V.asAgg v13 4 (fun rd14 => V.asInt (rd14 0) .i64 (fun n15 => V.asStr (rd14 1) (fun s16 => V.asInt (rd14 2) .i64 (fun n17 => V.asSl (rd14 3) T_api_Expr (fun es18 => some ⟨Out.ret (V.agg [V.int .i64 n15, V.str s16, V.int .i64 n17, V.sl .no T_api_Expr es18]), [Blk.cells T_syntax_reader [V.sl .no T_api_Token es10, V.int .i64 n11, V.sl .no T_L_int es12] false], none⟩)))))) (fun v13 => V.asIface v13 T_syntax_given (fun w14 => V.asAgg w14 2 (fun rd15 => V.asInt (rd15 0) .i64 (fun n16 => V.asInt (rd15 1) .i64 (fun n17 => some ⟨Out.pan (V.iface T_syntax_given (V.agg [V.int .i64 n16, V.int .i64 n17])), [Blk.cells T_syntax_reader [V.sl .no T_api_Token es10, V.int .i64 n11, V.sl .no T_L_int es12] false], none⟩)))))))))) else (den Sp syntax_reader_bin.id [V.ref 0 0, V.int .i64 (IntKind.wrap .i64 (a1 + (1 : Int))), V.int .i64 a2] [Blk.cells T_syntax_reader [V.sl .no T_api_Token m0_0, V.int .i64 m0_1, V.sl .no T_L_int m0_2] false] none).bind (fun r8 => Blk.asCells (List.getD (Res.bl r8) 0 (Blk.cells T_n0 [] true)) T_syntax_reader 3 (fun rd9 => V.asSl (rd9 0) T_api_Token (fun es10 => V.asInt (rd9 1) .i64 (fun n11 => V.asSl (rd9 2) T_L_int (fun es12 => Res.onOut r8 (fun v13 => V.asAgg v13 4 (fun rd14 => V.asInt (rd14 0) .i64 (fun n15 => V.asStr (rd14 1) (fun s16 => V.asInt (rd14 2) .i64 (fun n17 => V.asSl (rd14 3) T_api_Expr (fun es18 => (den Sp syntax_reader_sign.id [V.ref 0 0, V.int .i64 a1] [Blk.cells T_syntax_reader [V.sl .no T_api_Token es10, V.int .i64 n11, V.sl .no T_L_int es12] false] none).bind (fun r20 => Blk.asCells (List.getD (Res.bl r20) 0 (Blk.cells T_n0 [] true)) T_syntax_reader 3 (fun rd21 => V.asSl (rd21 0) T_api_Token (fun es22 => V.asInt (rd21 1) .i64 (fun n23 => V.asSl (rd21 2) T_L_int (fun es24 => Res.onRet r20 (fun v25 => V.asStr v25 (fun s26 => L1_1_1_0_1_0 a1 a2 s26 es22 n23 es24 n15 s16 n17 es18))))))))))))) (fun v13 => V.asIface v13 T_syntax_given (fun w14 => V.asAgg w14 2 (fun rd15 => V.asInt (rd15 0) .i64 (fun n16 => V.asInt (rd15 1) .i64 (fun n17 => some ⟨Out.pan (V.iface T_syntax_given (V.agg [V.int .i64 n16, V.int .i64 n17])), [Blk.cells T_syntax_reader [V.sl .no T_api_Token es10, V.int .i64 n11, V.sl .no T_L_int es12] false], none⟩))))))))))) := (den_eq ..).trans (by kernel_rfl)
end syntax_reader_bin
namespace syntax_reader_unary
noncomputable abbrev e (p : List Nat) := ev Sp (den Sp) id Tryz.f193.ntmps (cAt (bodyOf Tryz.f193) p)
noncomputable abbrev cn (n0 : List Nat) := canon Sp id n0
noncomputable abbrev K : K := kFin Sp (den Sp) (Sp.oo id) Tryz.f193 1
noncomputable def L1_0_1_0 (i0 i1 : Int) (l2 : List (List V)) (i3 : Int) (l4 : List (List V)) : Option Res := LP (e [1, 0, 1, 0, 0]) (cn [0, 1004]) (kBlk 0 (kSeq (e [1, 1]) (K))) ([(0, (V.ref 0 0)), (1, (V.int .i64 i0)), (4, (V.ref 1004 0)), (11, (V.agg [V.str (ByteArray.mk #[45]), V.str (ByteArray.mk #[33])])), (12, (V.int .i64 i1))], ⟨[(0, (Blk.cells T_syntax_reader [V.sl .no T_api_Token l2, V.int .i64 i3, V.sl .no T_L_int l4] false)), (1004, (Blk.cells T_api_Expr [V.int .i64 (0 : Int), V.str (ByteArray.mk #[]), V.int .i64 (0 : Int), V.sl (Tok.row 0) T_api_Expr []] false))], [0], [], [], none⟩)
theorem L1_0_1_0_eq (i0 i1 : Int) (l2 : List (List V)) (i3 : Int) (l4 : List (List V)) : L1_0_1_0 i0 i1 l2 i3 l4 =
  (bif (decide (i1 < (2 : Int))) then (if (((0 : Int) <= i1) ∧ (i1 < ((2 : Nat) : Int))) then (V.asStr (List.getD [V.str (ByteArray.mk #[45]), V.str (ByteArray.mk #[33])] (((Int.toNat i1) * 1) + 0) V.undef) (fun s13 => (den Sp syntax_tokens_has.id [V.ref 0 0, V.str s13] [Blk.cells T_syntax_tokens [V.sl .no T_api_Token l2, V.int .i64 i3] false] none).bind (fun r15 => Blk.asCells (List.getD (Res.bl r15) 0 (Blk.cells T_n0 [] true)) T_syntax_tokens 2 (fun rd16 => V.asSl (rd16 0) T_api_Token (fun es17 => V.asInt (rd16 1) .i64 (fun n18 => Res.onRet r15 (fun v19 => V.asBool v19 (fun b20 => bif b20 then (den Sp syntax_reader_begins.id [V.ref 0 0] [Blk.cells T_syntax_reader [V.sl .no T_api_Token es17, V.int .i64 n18, V.sl .no T_L_int l4] false] none).bind (fun r22 => Blk.asCells (List.getD (Res.bl r22) 0 (Blk.cells T_n0 [] true)) T_syntax_reader 3 (fun rd23 => V.asSl (rd23 0) T_api_Token (fun es24 => V.asInt (rd23 1) .i64 (fun n25 => V.asSl (rd23 2) T_L_int (fun es26 => Res.onRet r22 (fun v27 => V.asBool v27 (fun b28 => (den Sp syntax_tokens_deep.id [V.ref 0 0, V.int .i64 (IntKind.wrap .i64 (i0 + (1 : Int))), V.bool b28] [Blk.cells T_syntax_tokens [V.sl .no T_api_Token es24, V.int .i64 n25] false] none).bind (fun r29 => Blk.asCells (List.getD (Res.bl r29) 0 (Blk.cells T_n0 [] true)) T_syntax_tokens 2 (fun rd30 => V.asSl (rd30 0) T_api_Token (fun es31 => V.asInt (rd30 1) .i64 (fun n32 => Res.onOut r29 (fun v33 => V.asTup v33 0 (fun rd34 => (den Sp syntax_reader_unary.id [V.ref 0 0, V.int .i64 (IntKind.wrap .i64 (i0 + (1 : Int)))] [Blk.cells T_syntax_reader [V.sl .no T_api_Token es31, V.int .i64 n32, V.sl .no T_L_int es26] false] none).bind (fun r36 => Blk.asCells (List.getD (Res.bl r36) 0 (Blk.cells T_n0 [] true)) T_syntax_reader 3 (fun rd37 => V.asSl (rd37 0) T_api_Token (fun es38 => V.asInt (rd37 1) .i64 (fun n39 => V.asSl (rd37 2) T_L_int (fun es40 => Res.onOut r36 (fun v41 => V.asAgg v41 4 (fun rd42 => V.asInt (rd42 0) .i64 (fun n43 => V.asStr (rd42 1) (fun s44 => V.asInt (rd42 2) .i64 (fun n45 => V.asSl (rd42 3) T_api_Expr (fun es46 => some ⟨Out.ret (V.agg [V.int .i64 (5 : Int), V.str s13, V.int .i64 (0 : Int), V.sl .no T_api_Expr [[V.int .i64 n43, V.str s44, V.int .i64 n45, V.sl .no T_api_Expr es46]]]), [Blk.cells T_syntax_reader [V.sl .no T_api_Token es38, V.int .i64 n39, V.sl .no T_L_int es40] false], none⟩)))))) (fun v41 => V.asIface v41 T_syntax_given (fun w42 => V.asAgg w42 2 (fun rd43 => V.asInt (rd43 0) .i64 (fun n44 => V.asInt (rd43 1) .i64 (fun n45 => some ⟨Out.pan (V.iface T_syntax_given (V.agg [V.int .i64 n44, V.int .i64 n45])), [Blk.cells T_syntax_reader [V.sl .no T_api_Token es38, V.int .i64 n39, V.sl .no T_L_int es40] false], none⟩)))))))))))) (fun v33 => V.asIface v33 T_syntax_given (fun w34 => V.asAgg w34 2 (fun rd35 => V.asInt (rd35 0) .i64 (fun n36 => V.asInt (rd35 1) .i64 (fun n37 => some ⟨Out.pan (V.iface T_syntax_given (V.agg [V.int .i64 n36, V.int .i64 n37])), [Blk.cells T_syntax_reader [V.sl .no T_api_Token es31, V.int .i64 n32, V.sl .no T_L_int es26] false], none⟩)))))))))))))))) else (L1_0_1_0 i0 (IntKind.wrap .i64 (i1 + (1 : Int))) es17 n18 l4))))))))) else none) else (if (((0 : Int) <= i3) ∧ (i3 < (l2.length : Int))) then (V.asInt (List.getD (List.getD l2 (Int.toNat i3) []) 0 V.undef) .i64 (fun n13 => V.asStr (List.getD (List.getD l2 (Int.toNat i3) []) 1 V.undef) (fun s14 => V.asInt (List.getD (List.getD l2 (Int.toNat i3) []) 2 V.undef) .i64 (fun n15 => V.asInt (List.getD (List.getD l2 (Int.toNat i3) []) 3 V.undef) .i64 (fun n16 => (den Sp syntax_tokens_has.id [V.ref 0 0, V.str (ByteArray.mk #[40])] [Blk.cells T_syntax_tokens [V.sl .no T_api_Token l2, V.int .i64 i3] false] none).bind (fun r18 => Blk.asCells (List.getD (Res.bl r18) 0 (Blk.cells T_n0 [] true)) T_syntax_tokens 2 (fun rd19 => V.asSl (rd19 0) T_api_Token (fun es20 => V.asInt (rd19 1) .i64 (fun n21 => Res.onRet r18 (fun v22 => V.asBool v22 (fun b23 => bif b23 then (den Sp syntax_reader_expr.id [V.ref 0 0, V.int .i64 (IntKind.wrap .i64 (i0 + (1 : Int)))] [Blk.cells T_syntax_reader [V.sl .no T_api_Token es20, V.int .i64 n21, V.sl .no T_L_int l4] false] none).bind (fun r25 => Blk.asCells (List.getD (Res.bl r25) 0 (Blk.cells T_n0 [] true)) T_syntax_reader 3 (fun rd26 => V.asSl (rd26 0) T_api_Token (fun es27 => V.asInt (rd26 1) .i64 (fun n28 => V.asSl (rd26 2) T_L_int (fun es29 => Res.onOut r25 (fun v30 => V.asAgg v30 4 (fun rd31 => V.asInt (rd31 0) .i64 (fun n32 => V.asStr (rd31 1) (fun s33 => V.asInt (rd31 2) .i64 (fun n34 => V.asSl (rd31 3) T_api_Expr (fun es35 => (den Sp syntax_tokens_need.id [V.ref 0 0, V.str (ByteArray.mk #[41])] [Blk.cells T_syntax_tokens [V.sl .no T_api_Token es27, V.int .i64 n28] false] none).bind (fun r37 => Blk.asCells (List.getD (Res.bl r37) 0 (Blk.cells T_n0 [] true)) T_syntax_tokens 2 (fun rd38 => V.asSl (rd38 0) T_api_Token (fun es39 => V.asInt (rd38 1) .i64 (fun n40 => Res.onOut r37 (fun v41 => V.asTup v41 0 (fun rd42 => some ⟨Out.ret (V.agg [V.int .i64 n32, V.str s33, V.int .i64 n34, V.sl .no T_api_Expr es35]), [Blk.cells T_syntax_reader [V.sl .no T_api_Token es39, V.int .i64 n40, V.sl .no T_L_int es29] false], none⟩)) (fun v41 => V.asIface v41 T_syntax_given (fun w42 => V.asAgg w42 2 (fun rd43 => V.asInt (rd43 0) .i64 (fun n44 => V.asInt (rd43 1) .i64 (fun n45 => some ⟨Out.pan (V.iface T_syntax_given (V.agg [V.int .i64 n44, V.int .i64 n45])), [Blk.cells T_syntax_reader [V.sl .no T_api_Token es39, V.int .i64 n40, V.sl .no T_L_int es29] false], none⟩))))))))))))))) (fun v30 => V.asIface v30 T_syntax_given (fun w31 => V.asAgg w31 2 (fun rd32 => V.asInt (rd32 0) .i64 (fun n33 => V.asInt (rd32 1) .i64 (fun n34 => some ⟨Out.pan (V.iface T_syntax_given (V.agg [V.int .i64 n33, V.int .i64 n34])), [Blk.cells T_syntax_reader [V.sl .no T_api_Token es27, V.int .i64 n28, V.sl .no T_L_int es29] false], none⟩)))))))))) else (den Sp syntax_tokens_has.id [V.ref 0 0, V.str (ByteArray.mk #[116, 114, 117, 101])] [Blk.cells T_syntax_tokens [V.sl .no T_api_Token es20, V.int .i64 n21] false] none).bind (fun r25 => Blk.asCells (List.getD (Res.bl r25) 0 (Blk.cells T_n0 [] true)) T_syntax_tokens 2 (fun rd26 => V.asSl (rd26 0) T_api_Token (fun es27 => V.asInt (rd26 1) .i64 (fun n28 => Res.onRet r25 (fun v29 => V.asBool v29 (fun b30 => bif b30 then (some ⟨Out.ret (V.agg [V.int .i64 (2 : Int), V.str (ByteArray.mk #[]), V.int .i64 (1 : Int), V.sl .no T_api_Expr []]), [Blk.cells T_syntax_reader [V.sl .no T_api_Token es27, V.int .i64 n28, V.sl .no T_L_int l4] false], none⟩) else (den Sp syntax_tokens_has.id [V.ref 0 0, V.str (ByteArray.mk #[102, 97, 108, 115, 101])] [Blk.cells T_syntax_tokens [V.sl .no T_api_Token es27, V.int .i64 n28] false] none).bind (fun r32 => Blk.asCells (List.getD (Res.bl r32) 0 (Blk.cells T_n0 [] true)) T_syntax_tokens 2 (fun rd33 => V.asSl (rd33 0) T_api_Token (fun es34 => V.asInt (rd33 1) .i64 (fun n35 => Res.onRet r32 (fun v36 => V.asBool v36 (fun b37 => bif b37 then (some ⟨Out.ret (V.agg [V.int .i64 (2 : Int), V.str (ByteArray.mk #[]), V.int .i64 (0 : Int), V.sl .no T_api_Expr []]), [Blk.cells T_syntax_reader [V.sl .no T_api_Token es34, V.int .i64 n35, V.sl .no T_L_int l4] false], none⟩) else (bif (n13 == (2 : Int)) then (some ⟨Out.ret (V.agg [V.int .i64 (1 : Int), V.str (ByteArray.mk #[]), V.int .i64 n15, V.sl .no T_api_Expr []]), [Blk.cells T_syntax_reader [V.sl .no T_api_Token es34, V.int .i64 (IntKind.wrap .i64 (n35 + (1 : Int))), V.sl .no T_L_int l4] false], none⟩) else (den Sp syntax_tokens_name.id [V.ref 0 0] [Blk.cells T_syntax_tokens [V.sl .no T_api_Token es34, V.int .i64 n35] false] none).bind (fun r40 => Blk.asCells (List.getD (Res.bl r40) 0 (Blk.cells T_n0 [] true)) T_syntax_tokens 2 (fun rd41 => V.asSl (rd41 0) T_api_Token (fun es42 => V.asInt (rd41 1) .i64 (fun n43 => Res.onOut r40 (fun v44 => V.asStr v44 (fun s45 => (den Sp syntax_tokens_has.id [V.ref 0 0, V.str (ByteArray.mk #[91])] [Blk.cells T_syntax_tokens [V.sl .no T_api_Token es42, V.int .i64 n43] false] none).bind (fun r47 => Blk.asCells (List.getD (Res.bl r47) 0 (Blk.cells T_n0 [] true)) T_syntax_tokens 2 (fun rd48 => V.asSl (rd48 0) T_api_Token (fun es49 => V.asInt (rd48 1) .i64 (fun n50 => Res.onRet r47 (fun v51 => V.asBool v51 (fun b52 => bif b52 then (den Sp syntax_reader_expr.id [V.ref 0 0, V.int .i64 (IntKind.wrap .i64 (i0 + (1 : Int)))] [Blk.cells T_syntax_reader [V.sl .no T_api_Token es49, V.int .i64 n50, V.sl .no T_L_int l4] false] none).bind (fun r54 => Blk.asCells (List.getD (Res.bl r54) 0 (Blk.cells T_n0 [] true)) T_syntax_reader 3 (fun rd55 => V.asSl (rd55 0) T_api_Token (fun es56 => V.asInt (rd55 1) .i64 (fun n57 => V.asSl (rd55 2) T_L_int (fun es58 => Res.onOut r54 (fun v59 => V.asAgg v59 4 (fun rd60 => V.asInt (rd60 0) .i64 (fun n61 => V.asStr (rd60 1) (fun s62 => V.asInt (rd60 2) .i64 (fun n63 => V.asSl (rd60 3) T_api_Expr (fun es64 => (den Sp syntax_tokens_need.id [V.ref 0 0, V.str (ByteArray.mk #[93])] [Blk.cells T_syntax_tokens [V.sl .no T_api_Token es56, V.int .i64 n57] false] none).bind (fun r66 => Blk.asCells (List.getD (Res.bl r66) 0 (Blk.cells T_n0 [] true)) T_syntax_tokens 2 (fun rd67 => V.asSl (rd67 0) T_api_Token (fun es68 => V.asInt (rd67 1) .i64 (fun n69 => Res.onOut r66 (fun v70 => V.asTup v70 0 (fun rd71 => some ⟨Out.ret (V.agg [V.int .i64 (4 : Int), V.str s45, V.int .i64 (0 : Int), V.sl .no T_api_Expr [[V.int .i64 n61, V.str s62, V.int .i64 n63, V.sl .no T_api_Expr es64]]]), [Blk.cells T_syntax_reader [V.sl .no T_api_Token es68, V.int .i64 n69, V.sl .no T_L_int es58] false], none⟩)) (fun v70 => V.asIface v70 T_syntax_given (fun w71 => V.asAgg w71 2 (fun rd72 => V.asInt (rd72 0) .i64 (fun n73 => V.asInt (rd72 1) .i64 (fun n74 => some ⟨Out.pan (V.iface T_syntax_given (V.agg [V.int .i64 n73, V.int .i64 n74])), [Blk.cells T_syntax_reader [V.sl .no T_api_Token es68, V.int .i64 n69, V.sl .no T_L_int es58] false], none⟩))))))))))))))) (fun v59 => V.asIface v59 T_syntax_given (fun w60 => V.asAgg w60 2 (fun rd61 => V.asInt (rd61 0) .i64 (fun n62 => V.asInt (rd61 1) .i64 (fun n63 => some ⟨Out.pan (V.iface T_syntax_given (V.agg [V.int .i64 n62, V.int .i64 n63])), [Blk.cells T_syntax_reader [V.sl .no T_api_Token es56, V.int .i64 n57, V.sl .no T_L_int es58] false], none⟩)))))))))) else (some ⟨Out.ret (V.agg [V.int .i64 (3 : Int), V.str s45, V.int .i64 (0 : Int), V.sl .no T_api_Expr []]), [Blk.cells T_syntax_reader [V.sl .no T_api_Token es49, V.int .i64 n50, V.sl .no T_L_int l4] false], none⟩))))))))) (fun v44 => V.asIface v44 T_syntax_given (fun w45 => V.asAgg w45 2 (fun rd46 => V.asInt (rd46 0) .i64 (fun n47 => V.asInt (rd46 1) .i64 (fun n48 => some ⟨Out.pan (V.iface T_syntax_given (V.agg [V.int .i64 n47, V.int .i64 n48])), [Blk.cells T_syntax_reader [V.sl .no T_api_Token es42, V.int .i64 n43, V.sl .no T_L_int l4] false], none⟩))))))))))))))))))))))))))))))))) else none)) := (LP_eq ..).trans (by kernel_rfl)
theorem eq (m0_0 : List (List V)) (m0_1 : Int) (m0_2 : List (List V)) (a1 : Int) : den Sp id [V.ref 0 0, V.int .i64 a1] [Blk.cells T_syntax_reader [V.sl .no T_api_Token m0_0, V.int .i64 m0_1, V.sl .no T_L_int m0_2] false] none =
  (L1_0_1_0 a1 (0 : Int) m0_0 m0_1 m0_2) := (den_eq ..).trans (by kernel_rfl)
end syntax_reader_unary
namespace syntax_caught
theorem eq (a0_0 a0_1 : Int) : den Sp id [V.iface T_syntax_given (V.agg [V.int .i64 a0_0, V.int .i64 a0_1])] [] none =
  (some ⟨Out.ret (V.tup [V.int .i64 a0_0, V.int .i64 a0_1]), [], none⟩) := (den_eq ..).trans (by kernel_rfl)
end syntax_caught
namespace syntax_ReadExpr_1
theorem eq0 (c0_0 : Int) (c0_1 : ByteArray) (c0_2 : Int) (c0_3 : List (List V)) (c1_0 c2_0 c3_0 : Int) : den Sp id [V.ref 0 0, V.ref 1 0, V.ref 2 0, V.ref 3 0] [Blk.cells T_api_Expr [V.int .i64 c0_0, V.str c0_1, V.int .i64 c0_2, V.sl .no T_api_Expr c0_3] false, Blk.cells T_int [V.int .i64 c1_0] false, Blk.cells T_int [V.int .i64 c2_0] false, Blk.cells T_api_Errno [V.int .i64 c3_0] false] (some none) =
  (some ⟨Out.ret (V.tup []), [Blk.cells T_api_Expr [V.int .i64 c0_0, V.str c0_1, V.int .i64 c0_2, V.sl .no T_api_Expr c0_3] false, Blk.cells T_int [V.int .i64 c1_0] false, Blk.cells T_int [V.int .i64 c2_0] false, Blk.cells T_api_Errno [V.int .i64 c3_0] false], some none⟩) := (den_eq ..).trans (by kernel_rfl)
end syntax_ReadExpr_1
namespace syntax_ReadExpr_1
theorem eq1 (c0_0 : Int) (c0_1 : ByteArray) (c0_2 : Int) (c0_3 : List (List V)) (c1_0 c2_0 c3_0 w_0 w_1 : Int) : den Sp id [V.ref 0 0, V.ref 1 0, V.ref 2 0, V.ref 3 0] [Blk.cells T_api_Expr [V.int .i64 c0_0, V.str c0_1, V.int .i64 c0_2, V.sl .no T_api_Expr c0_3] false, Blk.cells T_int [V.int .i64 c1_0] false, Blk.cells T_int [V.int .i64 c2_0] false, Blk.cells T_api_Errno [V.int .i64 c3_0] false] (some (some (V.iface T_syntax_given (V.agg [V.int .i64 w_0, V.int .i64 w_1])))) =
  (den Sp syntax_caught.id [V.iface T_syntax_given (V.agg [V.int .i64 w_0, V.int .i64 w_1])] [] none).bind (fun r13 => Res.onRet r13 (fun v14 => V.asTup v14 2 (fun rd15 => V.asInt (rd15 0) .i64 (fun n16 => V.asInt (rd15 1) .i64 (fun n17 => some ⟨Out.ret (V.tup []), [Blk.cells T_api_Expr [V.int .i64 (0 : Int), V.str (ByteArray.mk #[]), V.int .i64 (0 : Int), V.sl .no T_api_Expr []] false, Blk.cells T_int [V.int .i64 (0 : Int)] false, Blk.cells T_int [V.int .i64 n16] false, Blk.cells T_api_Errno [V.int .i64 n17] false], some none⟩))))) := (den_eq ..).trans (by kernel_rfl)
end syntax_ReadExpr_1
namespace syntax_ReadExpr
noncomputable abbrev e (p : List Nat) := ev Sp (den Sp) id Tryz.f122.ntmps (cAt (bodyOf Tryz.f122) p)
noncomputable abbrev K : K := kFin Sp (den Sp) (Sp.oo id) Tryz.f122 0
noncomputable def J1_0_1_0_0 (l0 : List (List V)) (i1 : Int) : Option Res := joinAt Sp (den Sp) id Tryz.f122.ntmps (cAt (bodyOf Tryz.f122) [1, 0, 1, 0, 0]) (kSeq (e [1, 0, 1, 0, 1]) (kSeq (e [1, 1]) (K))) ([(0, (V.sl .no T_api_Token l0)), (1, (V.int .i64 i1)), (4, (V.ref 1004 0)), (5, (V.ref 1005 0)), (6, (V.ref 1006 0)), (7, (V.ref 1007 0))], ⟨[(1004, (Blk.cells T_api_Expr [V.int .i64 (0 : Int), V.str (ByteArray.mk #[]), V.int .i64 (0 : Int), V.sl (Tok.row 0) T_api_Expr []] false)), (1005, (Blk.cells T_int [V.int .i64 (0 : Int)] false)), (1006, (Blk.cells T_int [V.int .i64 (0 : Int)] false)), (1007, (Blk.cells T_api_Errno [V.int .i64 (0 : Int)] false))], [0], [], [], none⟩)
noncomputable def J1_1_0 (l0 : List (List V)) (i1 : Int) : Option Res := joinAt Sp (den Sp) id Tryz.f122.ntmps (cAt (bodyOf Tryz.f122) [1, 1, 0]) (kSeq (e [1, 1, 1]) (K)) ([(0, (V.sl .no T_api_Token l0)), (1, (V.int .i64 i1)), (4, (V.ref 1004 0)), (5, (V.ref 1005 0)), (6, (V.ref 1006 0)), (7, (V.ref 1007 0))], ⟨[(1004, (Blk.cells T_api_Expr [V.int .i64 (0 : Int), V.str (ByteArray.mk #[]), V.int .i64 (0 : Int), V.sl (Tok.row 0) T_api_Expr []] false)), (1005, (Blk.cells T_int [V.int .i64 (0 : Int)] false)), (1006, (Blk.cells T_int [V.int .i64 (0 : Int)] false)), (1007, (Blk.cells T_api_Errno [V.int .i64 (0 : Int)] false))], [0], [], [], none⟩)
theorem J1_1_0_eq (l0 : List (List V)) (i1 : Int) : J1_1_0 l0 i1 =
  (den Sp syntax_reader_expr.id [V.ref 0 0, V.int .i64 (1 : Int)] [Blk.cells T_syntax_reader [V.sl .no T_api_Token l0, V.int .i64 i1, V.sl .no T_L_int []] false] none).bind (fun r12 => Blk.asCells (List.getD (Res.bl r12) 0 (Blk.cells T_n0 [] true)) T_syntax_reader 3 (fun rd13 => V.asSl (rd13 0) T_api_Token (fun es14 => V.asInt (rd13 1) .i64 (fun n15 => V.asSl (rd13 2) T_L_int (fun es16 => Res.onOut r12 (fun v17 => V.asAgg v17 4 (fun rd18 => V.asInt (rd18 0) .i64 (fun n19 => V.asStr (rd18 1) (fun s20 => V.asInt (rd18 2) .i64 (fun n21 => V.asSl (rd18 3) T_api_Expr (fun es22 => (den Sp syntax_ReadExpr_1.id [V.ref 0 0, V.ref 1 0, V.ref 2 0, V.ref 3 0] [Blk.cells T_api_Expr [V.int .i64 n19, V.str s20, V.int .i64 n21, V.sl .no T_api_Expr es22] false, Blk.cells T_int [V.int .i64 n15] false, Blk.cells T_int [V.int .i64 (0 : Int)] false, Blk.cells T_api_Errno [V.int .i64 (0 : Int)] false] (some none)).bind (fun r24 => Blk.asCells (List.getD (Res.bl r24) 0 (Blk.cells T_n0 [] true)) T_api_Expr 4 (fun rd25 => V.asInt (rd25 0) .i64 (fun n26 => V.asStr (rd25 1) (fun s27 => V.asInt (rd25 2) .i64 (fun n28 => V.asSl (rd25 3) T_api_Expr (fun es29 => Blk.asCells (List.getD (Res.bl r24) 1 (Blk.cells T_n0 [] true)) T_int 1 (fun rd30 => V.asInt (rd30 0) .i64 (fun n31 => Blk.asCells (List.getD (Res.bl r24) 2 (Blk.cells T_n0 [] true)) T_int 1 (fun rd32 => V.asInt (rd32 0) .i64 (fun n33 => Blk.asCells (List.getD (Res.bl r24) 3 (Blk.cells T_n0 [] true)) T_api_Errno 1 (fun rd34 => V.asInt (rd34 0) .i64 (fun n35 => Res.onRet r24 (fun v36 => V.asTup v36 0 (fun rd37 => Res.onPn r24 (some ⟨Out.ret (V.tup [V.agg [V.int .i64 n26, V.str s27, V.int .i64 n28, V.sl .no T_api_Expr es29], V.int .i64 n31, V.int .i64 n33, V.int .i64 n35]), [], none⟩) (fun v38 => some ⟨Out.ret (V.tup [V.agg [V.int .i64 n26, V.str s27, V.int .i64 n28, V.sl .no T_api_Expr es29], V.int .i64 n31, V.int .i64 n33, V.int .i64 n35]), [], none⟩))))))))))))))))))))) (fun v17 => V.asIface v17 T_syntax_given (fun w18 => V.asAgg w18 2 (fun rd19 => V.asInt (rd19 0) .i64 (fun n20 => V.asInt (rd19 1) .i64 (fun n21 => (den Sp syntax_ReadExpr_1.id [V.ref 0 0, V.ref 1 0, V.ref 2 0, V.ref 3 0] [Blk.cells T_api_Expr [V.int .i64 (0 : Int), V.str (ByteArray.mk #[]), V.int .i64 (0 : Int), V.sl .no T_api_Expr []] false, Blk.cells T_int [V.int .i64 (0 : Int)] false, Blk.cells T_int [V.int .i64 (0 : Int)] false, Blk.cells T_api_Errno [V.int .i64 (0 : Int)] false] (some (some (V.iface T_syntax_given (V.agg [V.int .i64 n20, V.int .i64 n21]))))).bind (fun r22 => Blk.asCells (List.getD (Res.bl r22) 0 (Blk.cells T_n0 [] true)) T_api_Expr 4 (fun rd23 => V.asInt (rd23 0) .i64 (fun n24 => V.asStr (rd23 1) (fun s25 => V.asInt (rd23 2) .i64 (fun n26 => V.asSl (rd23 3) T_api_Expr (fun es27 => Blk.asCells (List.getD (Res.bl r22) 1 (Blk.cells T_n0 [] true)) T_int 1 (fun rd28 => V.asInt (rd28 0) .i64 (fun n29 => Blk.asCells (List.getD (Res.bl r22) 2 (Blk.cells T_n0 [] true)) T_int 1 (fun rd30 => V.asInt (rd30 0) .i64 (fun n31 => Blk.asCells (List.getD (Res.bl r22) 3 (Blk.cells T_n0 [] true)) T_api_Errno 1 (fun rd32 => V.asInt (rd32 0) .i64 (fun n33 => Res.onRet r22 (fun v34 => V.asTup v34 0 (fun rd35 => Res.onPn r22 (some ⟨Out.ret (V.tup [V.agg [V.int .i64 n24, V.str s25, V.int .i64 n26, V.sl .no T_api_Expr es27], V.int .i64 n29, V.int .i64 n31, V.int .i64 n33]), [], none⟩) (fun v36 => some ⟨Out.pan (V.iface T_syntax_given (V.agg [V.int .i64 n20, V.int .i64 n21])), [], none⟩))))))))))))))))))))))))) := (joinAt_eq ..).trans (by kernel_rfl)
theorem eq (a0 : List (List V)) (a1 : Int) : den Sp id [V.sl .no T_api_Token a0, V.int .i64 a1] [] none =
  (den Sp lex_Right.id [V.sl .no T_api_Token a0] [] none).bind (fun r4 => Res.onRet r4 (fun v5 => V.asBool v5 (fun b6 => bif (!b6) then (J1_0_1_0_0 a0 a1) else (bif (decide (a1 < (0 : Int))) then (J1_0_1_0_0 a0 a1) else (bif (decide (a1 >= (a0.length : Int))) then (J1_0_1_0_0 a0 a1) else (J1_1_0 a0 a1)))))) := (den_eq ..).trans (by kernel_rfl)
end syntax_ReadExpr
end Go.Proofs.YtmhnmelaodhemaaGreatDoor
namespace Go.Proofs.YtmhnmelaodhemaaGreatDoor
open Go Go.Proofs.Ab Go.Proofs.Px
attribute [local congr] bind_h asInt_h asBool_h asStr_h asSl_h asSlR_h asAgg_h asTup_h asIface_h asCells_h onRet_h onOut_h cond_h
theorem sun_v (m : Int) (s : List UInt8) (x : Ex) : Ex.v (.mk m s 0 [x]) = [.int .i64 m, .str (B s), .int .i64 0, .sl .no T_api_Expr [x.v]] := by rw [Ex.v_mk]; rfl
theorem sbin_v (s : List UInt8) (x y : Ex) : Ex.v (.mk 6 s 0 [x, y]) = [.int .i64 6, .str (B s), .int .i64 0, .sl .no T_api_Expr [x.v, y.v]] := by rw [Ex.v_mk]; rfl
theorem sleaf_v (m : Int) (s : List UInt8) (n : Int) : Ex.v (.mk m s n []) = [.int .i64 m, .str (B s), .int .i64 n, .sl .no T_api_Expr []] := by rw [Ex.v_mk]; rfl
theorem level_ne {s : List UInt8} (h : levelT s ≠ 0) : s ≠ [] := fun e => h (by rw [e]; rfl)
theorem isT_of {t : Tk} {s : List UInt8} (h : isT t s = true) : (t.kind = 3 ∨ t.kind = 4) ∧ t.text = s := by
 unfold isT at h
 simpa only [Bool.and_eq_true, Bool.or_eq_true, decide_eq_true_eq] using h
section
variable {l : List Tk} (hl : Ended l) (hn : l.length <= 100000)
include hl hn
structure FarS (l : List Tk) (k : Nat) : Prop where
 un : ∀ k', k < k' -> k' < l.length -> ∀ (d : Int) ps, 0 <= d -> d <= 60 -> RsX l ps (oneW l d k') (den Sp syntax_reader_unary.id [.ref 0 0, .int .i64 d] [rsB l k' ps] none)
 bin : ∀ k', k < k' -> k' < l.length -> ∀ (n d : Int) ps, 1 <= n -> n <= 6 -> 0 <= d -> d <= 60 -> RsX l ps (tightW l n d k') (den Sp syntax_reader_bin.id [.ref 0 0, .int .i64 n, .int .i64 d] [rsB l k' ps] none)
theorem expr_s {k : Nat} (hk : k < l.length) (d : Int) (ps : List (List V)) (hT : d <= 60 -> RsX l ps (tightW l 1 d k) (den Sp syntax_reader_bin.id [.ref 0 0, .int .i64 1, .int .i64 d] [rsB l k ps] none)) :
  RsX l ps (partR l d k (tightW l 1 d k)) (den Sp syntax_reader_expr.id [.ref 0 0, .int .i64 d] [rsB l k ps] none) := by
 have h1 := begins_s hn hk ps
 have h2 := deep_s hn hk d (opensT (tk l k))
 unfold partR
 unfold RsT at h2
 cases c : opensT (tk l k) with
 | false =>
  rw [c] at h1 h2
  rw [if_pos rfl] at h2 ⊢
  obtain ⟨j, h2⟩ := h2
  refine ⟨j, ?_⟩
  (try unfold rsB at *); (try unfold tkB at *); (try unfold givenS at *)
  rw [syntax_reader_expr.eq]
  simp only [h1, h2, lz, lx, if_true, if_false]
 | true =>
  rw [c] at h1 h2
  rw [if_neg (by simp)] at h2 ⊢
  by_cases c6 : 60 < d
  ·rw [if_pos c6] at h2 ⊢
   obtain ⟨j, h2⟩ := h2
   refine ⟨j, ?_⟩
   (try unfold rsB at *); (try unfold tkB at *); (try unfold givenS at *)
   rw [syntax_reader_expr.eq]
   simp only [h1, h2, lz, lx, if_true, if_false]
  ·rw [if_neg c6] at h2 ⊢
   simp only at h2
   have hT := hT (by omega)
   unfold RsX at *
   cases hq : tightW l 1 d k with
   | error e =>
    rw [hq] at hT
    obtain ⟨j, hT⟩ := hT
    refine ⟨j, ?_⟩
    (try unfold rsB at *); (try unfold tkB at *); (try unfold givenS at *)
    rw [syntax_reader_expr.eq]
    simp only [h1, h2, hT, lz, lx, if_true, if_false]
   | ok q =>
    obtain ⟨x, j⟩ := q
    rw [hq] at hT
    simp only at hT ⊢
    (try unfold rsB at *); (try unfold tkB at *); (try unfold givenS at *)
    rw [syntax_reader_expr.eq]
    simp only [h1, h2, hT, lz, lx, if_true, if_false]
noncomputable def un1 (l : List Tk) (ps : List (List V)) (d : Int) (i : Int) (k : Nat) : Option Res := syntax_reader_unary.L1_0_1_0 d i (l.map Tk.v) (k : Int) ps
theorem un_at {k : Nat} (hk : k < l.length) (d : Int) (ps : List (List V)) (h0 : 0 <= d) (h6 : d <= 60) (far : FarS l k) (i : Nat) (s : List UInt8) (hi : i < 2) (hs : List.getD [V.str (B [45]), V.str (B [33])] ((Int.toNat (i : Int)) * 1 + 0) .undef = .str (B s)) :
  (isT (tk l k) s = true -> RsX l ps (partR l (d + 1) (k + 1) (match oneW l (d + 1) (k + 1) with | .error e => .error e | .ok (x, j) => .ok (.mk 5 s 0 [x], j))) (un1 l ps d i k)) ∧
  (isT (tk l k) s = false -> un1 l ps d i k = un1 l ps d (i + 1 : Nat) k) := by
 have hh := has_s hn hk s
 have c2 : decide ((i : Int) < 2) = true := decide_eq_true (by omega)
 have hd : IntKind.i64.wrap (d + 1) = d + 1 := wrap_in (by omega) (by omega)
 have wi := wr1 (show i < 1099511627776 by omega)
 have ri : (0 : Int) <= (i : Int) ∧ (i : Int) < ((2 : Nat) : Int) := ⟨by omega, by omega⟩
 refine ⟨fun c => ?_, fun c => ?_⟩
 ·rw [c] at hh
  simp only [if_true] at hh
  have hk1 := hl.isT hk c
  have h1 := begins_s hn hk1 ps
  have h2 := deep_s hn hk1 (d + 1) (opensT (tk l (k + 1)))
  unfold partR
  unfold RsT at h2
  cases co : opensT (tk l (k + 1)) with
  | false =>
   rw [co] at h1 h2
   rw [if_pos rfl] at h2 ⊢
   obtain ⟨j, h2⟩ := h2
   refine ⟨j, ?_⟩
   (try unfold un1 at *); (try unfold rsB at *); (try unfold tkB at *); (try unfold givenS at *)
   rw [syntax_reader_unary.L1_0_1_0_eq]
   simp only [hh, h1, h2, c2, hd, wi, if_pos ri, hs, lz, lx, if_true, if_false]
  | true =>
   rw [co] at h1 h2
   rw [if_neg (by simp)] at h2 ⊢
   by_cases c6 : 60 < d + 1
   ·rw [if_pos c6] at h2 ⊢
    obtain ⟨j, h2⟩ := h2
    refine ⟨j, ?_⟩
    (try unfold un1 at *); (try unfold rsB at *); (try unfold tkB at *); (try unfold givenS at *)
    rw [syntax_reader_unary.L1_0_1_0_eq]
    simp only [hh, h1, h2, c2, hd, wi, if_pos ri, hs, lz, lx, if_true, if_false]
   ·rw [if_neg c6] at h2 ⊢
    simp only at h2
    have ih := far.un (k + 1) (by omega) hk1 (d + 1) ps (by omega) (by omega)
    unfold RsX at *
    cases hq : oneW l (d + 1) (k + 1) with
    | error e =>
     rw [hq] at ih
     obtain ⟨j, ih⟩ := ih
     refine ⟨j, ?_⟩
     (try unfold un1 at *); (try unfold rsB at *); (try unfold tkB at *); (try unfold givenS at *)
     rw [syntax_reader_unary.L1_0_1_0_eq]
     simp only [hh, h1, h2, ih, c2, hd, wi, if_pos ri, hs, lz, lx, if_true, if_false]
    | ok q =>
     obtain ⟨x, j⟩ := q
     rw [hq] at ih
     simp only at ih ⊢
     rw [sun_v]
     (try unfold un1 at *); (try unfold rsB at *); (try unfold tkB at *); (try unfold givenS at *)
     rw [syntax_reader_unary.L1_0_1_0_eq]
     simp only [hh, h1, h2, ih, c2, hd, wi, if_pos ri, hs, lz, lx, if_true, if_false]
 ·rw [c] at hh
  simp only [Bool.false_eq_true, if_false] at hh
  (try unfold un1 at *); (try unfold rsB at *); (try unfold tkB at *); (try unfold givenS at *)
  rw [syntax_reader_unary.L1_0_1_0_eq]
  simp only [hh, c2, hd, wi, if_pos ri, hs, lz, lx, if_true, if_false]
theorem un_s {k : Nat} (hk : k < l.length) (d : Int) (ps : List (List V)) (h0 : 0 <= d) (h6 : d <= 60) (far : FarS l k) : RsX l ps (oneW l d k) (den Sp syntax_reader_unary.id [.ref 0 0, .int .i64 d] [rsB l k ps] none) := by
 have e0 : den Sp syntax_reader_unary.id [.ref 0 0, .int .i64 d] [rsB l k ps] none = un1 l ps d (0 : Nat) k := by
  unfold rsB un1
  rw [syntax_reader_unary.eq]; rfl
 have u0 := un_at hl hn hk d ps h0 h6 far 0 [45] (by decide) rfl
 have u1 := un_at hl hn hk d ps h0 h6 far 1 [33] (by decide) rfl
 rw [e0, oneW, dif_pos hk]
 by_cases c45 : isT (tk l k) [45] = true
 ·rw [if_pos (.inl c45), ((isT_of c45).2 : (tk l k).text = [45])]
  exact u0.1 c45
 have c45' : isT (tk l k) [45] = false := by simpa using c45
 rw [u0.2 c45']
 by_cases c33 : isT (tk l k) [33] = true
 ·rw [if_pos (.inr c33), ((isT_of c33).2 : (tk l k).text = [33])]
  exact u1.1 c33
 have c33' : isT (tk l k) [33] = false := by simpa using c33
 show RsX l ps _ (un1 l ps d (1 : Nat) k)
 rw [u1.2 c33', if_neg (by rw [c45', c33']; simp)]
 clear u0 u1 e0
 have r := row_in hk
 have hh := fun s => has_s hn hk s
 have hd : IntKind.i64.wrap (d + 1) = d + 1 := wrap_in (by omega) (by omega)
 have hw := wr1 (show k < 1099511627776 by omega)
 have c2 : decide ((((1 : Nat) + 1 : Nat) : Int) < 2) = false := rfl
 by_cases c40 : isT (tk l k) [40] = true
 ·have h40 := hh [40]
  rw [if_pos c40] at h40 ⊢
  rw [c40] at h40
  have hk1 := hl.isT hk c40
  have ih := expr_s hl hn hk1 (d + 1) ps fun h => far.bin (k + 1) (by omega) hk1 1 (d + 1) ps (by omega) (by omega) (by omega) h
  unfold wantR
  unfold RsX at *
  cases hq : partR l (d + 1) (k + 1) (tightW l 1 (d + 1) (k + 1)) with
  | error e =>
   rw [hq] at ih
   obtain ⟨j, ih⟩ := ih
   refine ⟨j, ?_⟩
   (try unfold un1 at *); (try unfold rsB at *); (try unfold tkB at *); (try unfold givenS at *)
   rw [syntax_reader_unary.L1_0_1_0_eq]
   simp only [h40, ih, c2, hd, hw, if_pos r, Int.toNat_natCast, tok_g hk, tkv_0, tkv_1, tkv_2, tkv_3, lz, lx, if_true, if_false]
  | ok q =>
   obtain ⟨x, j⟩ := q
   rw [hq] at ih
   have hj := (tight_goes hl hk1 (partR_ok hq)).2
   have hnd := need_s hn hj [41]
   unfold RsT at hnd
   simp only at ih ⊢
   by_cases c41 : isT (tk l j) [41] = true
   ·rw [if_pos c41] at hnd ⊢
    simp only [id] at hnd ⊢
    (try unfold un1 at *); (try unfold rsB at *); (try unfold tkB at *); (try unfold givenS at *)
    rw [syntax_reader_unary.L1_0_1_0_eq]
    simp only [h40, ih, hnd, c2, hd, hw, if_pos r, Int.toNat_natCast, tok_g hk, tkv_0, tkv_1, tkv_2, tkv_3, lz, lx, if_true, if_false]
   ·rw [if_neg c41] at hnd ⊢
    obtain ⟨j2, hnd⟩ := hnd
    refine ⟨j2, ?_⟩
    (try unfold un1 at *); (try unfold rsB at *); (try unfold tkB at *); (try unfold givenS at *)
    rw [syntax_reader_unary.L1_0_1_0_eq]
    simp only [h40, ih, hnd, c2, hd, hw, if_pos r, Int.toNat_natCast, tok_g hk, tkv_0, tkv_1, tkv_2, tkv_3, lz, lx, if_true, if_false]
 have h40 := hh [40]
 rw [if_neg c40] at h40 ⊢
 rw [show isT (tk l k) [40] = false by simpa using c40] at h40
 by_cases ct : isT (tk l k) [116, 114, 117, 101] = true
 ·have ht := hh [116, 114, 117, 101]
  rw [if_pos ct] at ht ⊢
  rw [ct] at ht
  unfold RsX
  simp only
  rw [sleaf_v]
  (try unfold un1 at *); (try unfold rsB at *); (try unfold tkB at *); (try unfold givenS at *)
  rw [syntax_reader_unary.L1_0_1_0_eq]
  simp only [h40, ht, c2, hd, hw, if_pos r, Int.toNat_natCast, tok_g hk, tkv_0, tkv_1, tkv_2, tkv_3, lz, lx, if_true, if_false]
 have ht := hh [116, 114, 117, 101]
 rw [if_neg ct] at ht ⊢
 rw [show isT (tk l k) [116, 114, 117, 101] = false by simpa using ct] at ht
 by_cases cf : isT (tk l k) [102, 97, 108, 115, 101] = true
 ·have hf := hh [102, 97, 108, 115, 101]
  rw [if_pos cf] at hf ⊢
  rw [cf] at hf
  unfold RsX
  simp only
  rw [sleaf_v]
  (try unfold un1 at *); (try unfold rsB at *); (try unfold tkB at *); (try unfold givenS at *)
  rw [syntax_reader_unary.L1_0_1_0_eq]
  simp only [h40, ht, hf, c2, hd, hw, if_pos r, Int.toNat_natCast, tok_g hk, tkv_0, tkv_1, tkv_2, tkv_3, lz, lx, if_true, if_false]
 have hf := hh [102, 97, 108, 115, 101]
 rw [if_neg cf] at hf ⊢
 rw [show isT (tk l k) [102, 97, 108, 115, 101] = false by simpa using cf] at hf
 by_cases c2k : (tk l k).kind = 2
 ·rw [if_pos c2k]
  have c2' : ((tk l k).kind == 2) = true := by simpa using c2k
  unfold RsX
  simp only
  rw [sleaf_v]
  (try unfold un1 at *); (try unfold rsB at *); (try unfold tkB at *); (try unfold givenS at *)
  rw [syntax_reader_unary.L1_0_1_0_eq]
  simp only [h40, ht, hf, c2', c2, hd, hw, if_pos r, Int.toNat_natCast, tok_g hk, tkv_0, tkv_1, tkv_2, tkv_3, lz, lx, if_true, if_false]
 rw [if_neg c2k]
 have c2' : ((tk l k).kind == 2) = false := by simpa using c2k
 have hnm := name_s hn hk
 unfold RsT nameR wrongR at hnm
 by_cases c1 : (tk l k).kind = 1
 ·rw [if_pos c1] at hnm
  simp only at hnm
  rw [if_neg (by omega)]
  have hk1 := hl.next hk (by omega)
  have hg := has_s hn hk1 [91]
  by_cases c91 : isT (tk l (k + 1)) [91] = true
  ·rw [if_pos c91] at hg ⊢
   rw [c91] at hg
   have hk2 := hl.isT hk1 c91
   have ih := expr_s hl hn hk2 (d + 1) ps fun h => far.bin (k + 2) (by omega) hk2 1 (d + 1) ps (by omega) (by omega) (by omega) h
   unfold wantR
   unfold RsX at *
   cases hq : partR l (d + 1) (k + 2) (tightW l 1 (d + 1) (k + 2)) with
   | error e =>
    have q2 : partR l (d + 1) (k + 1 + 1) (tightW l 1 (d + 1) (k + 1 + 1)) = _ := hq
    rw [q2] at ih
    obtain ⟨j, ih⟩ := ih
    refine ⟨j, ?_⟩
    (try unfold un1 at *); (try unfold rsB at *); (try unfold tkB at *); (try unfold givenS at *)
    rw [syntax_reader_unary.L1_0_1_0_eq]
    simp only [h40, ht, hf, c2', hnm, hg, ih, c2, hd, hw, if_pos r, Int.toNat_natCast, tok_g hk, tkv_0, tkv_1, tkv_2, tkv_3, lz, lx, if_true, if_false]
   | ok q =>
    obtain ⟨x, j⟩ := q
    have q2 : partR l (d + 1) (k + 1 + 1) (tightW l 1 (d + 1) (k + 1 + 1)) = _ := hq
    rw [q2] at ih
    have hj := (tight_goes hl hk2 (partR_ok hq)).2
    have hnd := need_s hn hj [93]
    unfold RsT at hnd
    simp only at ih ⊢
    by_cases c93 : isT (tk l j) [93] = true
    ·rw [if_pos c93] at hnd ⊢
     simp only at hnd ⊢
     rw [sun_v]
     (try unfold un1 at *); (try unfold rsB at *); (try unfold tkB at *); (try unfold givenS at *)
     rw [syntax_reader_unary.L1_0_1_0_eq]
     simp only [h40, ht, hf, c2', hnm, hg, ih, hnd, c2, hd, hw, if_pos r, Int.toNat_natCast, tok_g hk, tkv_0, tkv_1, tkv_2, tkv_3, lz, lx, if_true, if_false]
    ·rw [if_neg c93] at hnd ⊢
     obtain ⟨j2, hnd⟩ := hnd
     refine ⟨j2, ?_⟩
     (try unfold un1 at *); (try unfold rsB at *); (try unfold tkB at *); (try unfold givenS at *)
     rw [syntax_reader_unary.L1_0_1_0_eq]
     simp only [h40, ht, hf, c2', hnm, hg, ih, hnd, c2, hd, hw, if_pos r, Int.toNat_natCast, tok_g hk, tkv_0, tkv_1, tkv_2, tkv_3, lz, lx, if_true, if_false]
  ·rw [if_neg c91] at hg ⊢
   rw [show isT (tk l (k + 1)) [91] = false by simpa using c91] at hg
   unfold RsX
   simp only
   rw [sleaf_v]
   (try unfold un1 at *); (try unfold rsB at *); (try unfold tkB at *); (try unfold givenS at *)
   rw [syntax_reader_unary.L1_0_1_0_eq]
   simp only [h40, ht, hf, c2', hnm, hg, c2, hd, hw, if_pos r, Int.toNat_natCast, tok_g hk, tkv_0, tkv_1, tkv_2, tkv_3, lz, lx, if_true, if_false]
 ·rw [if_neg c1] at hnm
  obtain ⟨j, hnm⟩ := hnm
  rw [if_pos c1]
  refine ⟨j, ?_⟩
  (try unfold un1 at *); (try unfold rsB at *); (try unfold tkB at *); (try unfold givenS at *)
  rw [syntax_reader_unary.L1_0_1_0_eq]
  simp only [h40, ht, hf, c2', hnm, c2, hd, hw, if_pos r, Int.toNat_natCast, tok_g hk, tkv_0, tkv_1, tkv_2, tkv_3, lz, lx, if_true, if_false]
noncomputable def lev1 (l : List Tk) (ps : List (List V)) (n d : Int) (s : List UInt8) (x : Ex) (k : Nat) : Option Res := syntax_reader_bin.L1_1_1_0_1_0 n d (B s) (l.map Tk.v) (k : Int) ps x.kind (B x.name) x.num (x.l.map Ex.v)
def signAt (l : List Tk) (n : Int) (k : Nat) : List UInt8 := if signT (tk l k) = n then (tk l k).text else []
theorem lev_s {k : Nat} (hk : k < l.length) (n d : Int) (ps : List (List V)) (n1 : 1 <= n) (n5 : n <= 5) (h0 : 0 <= d) (h6 : d <= 60) (x : Ex) (far : FarS l k)
  (hnext : ∀ k', k < k' -> k' < l.length -> ∀ x, RsX l ps (levW l n d x k') (lev1 l ps n d (signAt l n k') x k')) : RsX l ps (levW l n d x k) (lev1 l ps n d (signAt l n k) x k) := by
 have hw := wr1 (show k < 1099511627776 by omega)
 have hwn : IntKind.i64.wrap (n + 1) = n + 1 := wrap_in (by omega) (by omega)
 rw [levW, dif_pos hk]
 unfold signAt
 by_cases c : signT (tk l k) = n
 ·rw [if_pos c, if_neg (show ¬ signT (tk l k) ≠ n from fun h => h c)]
  have c4 : (tk l k).kind = 4 ∧ levelT (tk l k).text = n := by
   unfold signT at c
   by_cases c4 : (tk l k).kind = 4
   ·rw [if_pos c4] at c; exact ⟨c4, c⟩
   ·rw [if_neg c4] at c; omega
  have hk1 := hl.next hk (by omega)
  have hne : (tk l k).text ≠ [] := level_ne (by rw [c4.2]; omega)
  have hne' : ∀ i : Decidable (B (tk l k).text = B []), @decide _ i = false := fun i => @decide_eq_false _ i fun h => hne (B_inj.1 h)
  have ih := far.bin (k + 1) (by omega) hk1 (n + 1) d ps (by omega) (by omega) h0 h6
  unfold RsX at ih ⊢
  cases hq : tightW l (n + 1) d (k + 1) with
  | error e =>
   rw [hq] at ih
   obtain ⟨j, ih⟩ := ih
   refine ⟨j, ?_⟩
   (try unfold lev1 at *); (try unfold rsB at *); (try unfold tkB at *); (try unfold givenS at *)
   rw [syntax_reader_bin.L1_1_1_0_1_0_eq]
   simp only [ih, hw, hwn, lz, lx, if_true, if_false]
   simp [hne, B_inj]
  | ok q =>
   obtain ⟨y, j⟩ := q
   rw [hq] at ih
   have hj := tight_goes hl hk1 hq
   simp only at ih ⊢
   by_cases c3 : n = 3
   ·rw [if_pos c3]
    have c3' : (n == 3) = true := by simpa using c3
    simp only
    rw [sbin_v]
    (try unfold lev1 at *); (try unfold rsB at *); (try unfold tkB at *); (try unfold givenS at *)
    rw [syntax_reader_bin.L1_1_1_0_1_0_eq]
    simp only [ih, hw, hwn, c3', lz, lx, if_true, if_false]
    simp [hne, B_inj]
   ·rw [if_neg c3, dif_pos (show k < j by omega)]
    have c3' : (n == 3) = false := by simpa using c3
    have hs := sign_s hn hj.2 ps n n1
    have e : lev1 l ps n d (tk l k).text x k = lev1 l ps n d (signAt l n j) (.mk 6 (tk l k).text 0 [x, y]) j := by
     (try unfold lev1 at *); (try unfold rsB at *); (try unfold tkB at *); (try unfold givenS at *)
     rw [syntax_reader_bin.L1_1_1_0_1_0_eq]
     simp only [ih, hw, hwn, c3', hs, lz, lx, if_true, if_false]
     simp [hne, B_inj, signAt]
    rw [e]
    exact hnext j (by omega) hj.2 _
 ·rw [if_neg c, if_pos c]
  unfold RsX
  simp only
  (try unfold lev1 at *); (try unfold rsB at *); (try unfold tkB at *); (try unfold givenS at *)
  rw [syntax_reader_bin.L1_1_1_0_1_0_eq]
  simp only [decide_true, lz, lx, if_true, if_false]
theorem all_s : ∀ m k : Nat, l.length - k <= m -> k < l.length ->
  (∀ (d : Int) ps, 0 <= d -> d <= 60 -> RsX l ps (oneW l d k) (den Sp syntax_reader_unary.id [.ref 0 0, .int .i64 d] [rsB l k ps] none)) ∧
  (∀ (n d : Int) ps, 1 <= n -> n <= 6 -> 0 <= d -> d <= 60 -> RsX l ps (tightW l n d k) (den Sp syntax_reader_bin.id [.ref 0 0, .int .i64 n, .int .i64 d] [rsB l k ps] none)) ∧
  (∀ (n d : Int) ps x, 1 <= n -> n <= 5 -> 0 <= d -> d <= 60 -> RsX l ps (levW l n d x k) (lev1 l ps n d (signAt l n k) x k)) := by
 intro m
 induction m with
 | zero => intro k h1 h2; omega
 | succ m ih =>
  intro k hm hk
  have far : FarS l k := ⟨fun k' h1 h2 => (ih k' (by omega) h2).1, fun k' h1 h2 => (ih k' (by omega) h2).2.1⟩
  have un := fun d ps h0 h6 => un_s hl hn hk d ps h0 h6 far
  have lev := fun (n d : Int) ps x n1 n5 h0 h6 => lev_s hl hn hk n d ps n1 n5 h0 h6 x far fun k' h1 h2 x => (ih k' (by omega) h2).2.2 n d ps x n1 n5 h0 h6
  refine ⟨un, ?_, lev⟩
  have bin : ∀ (q : Nat) (n d : Int) ps, n + (q : Int) = 6 -> 1 <= n -> 0 <= d -> d <= 60 -> RsX l ps (tightW l n d k) (den Sp syntax_reader_bin.id [.ref 0 0, .int .i64 n, .int .i64 d] [rsB l k ps] none) := by
   intro q
   induction q with
   | zero =>
    intro n d ps hq n1 h0 h6
    obtain rfl : n = 6 := by omega
    rw [tight_one hl hk]
    have h := un d ps h0 h6
    have c : decide ((6 : Int) > 5) = true := by decide
    unfold RsX at *
    cases hq : oneW l d k with
    | error e =>
     rw [hq] at h
     obtain ⟨j, h⟩ := h
     refine ⟨j, ?_⟩
     (try unfold rsB at *); (try unfold tkB at *); (try unfold givenS at *)
     rw [syntax_reader_bin.eq]
     simp only [h, c, lz, lx, if_true, if_false]
    | ok q =>
     obtain ⟨x, j⟩ := q
     rw [hq] at h
     simp only at h ⊢
     (try unfold rsB at *); (try unfold tkB at *); (try unfold givenS at *)
     rw [syntax_reader_bin.eq]
     simp only [h, c, lz, lx, if_true, if_false]
   | succ q ihq =>
    intro n d ps hq n1 h0 h6
    have hwn : IntKind.i64.wrap (n + 1) = n + 1 := wrap_in (by omega) (by omega)
    have c : decide (n > 5) = false := decide_eq_false (by omega)
    have h := ihq (n + 1) d ps (by omega) (by omega) h0 h6
    rw [tight_lev hl hk n d n1 (by omega)]
    unfold thenR
    unfold RsX at h
    cases hq : tightW l (n + 1) d k with
    | error e =>
     rw [hq] at h
     obtain ⟨j, h⟩ := h
     refine ⟨j, ?_⟩
     (try unfold rsB at *); (try unfold tkB at *); (try unfold givenS at *)
     rw [syntax_reader_bin.eq]
     simp only [h, c, hwn, lz, lx, if_true, if_false]
    | ok r =>
     obtain ⟨x, j⟩ := r
     rw [hq] at h
     have hj := tight_goes hl hk hq
     simp only at h ⊢
     have hs := sign_s hn hj.2 ps n n1
     have e : den Sp syntax_reader_bin.id [.ref 0 0, .int .i64 n, .int .i64 d] [rsB l k ps] none = lev1 l ps n d (signAt l n j) x j := by
      (try unfold lev1 at *); (try unfold rsB at *); (try unfold tkB at *); (try unfold givenS at *)
      rw [syntax_reader_bin.eq]
      simp only [h, c, hwn, hs, lz, lx, if_true, if_false]
      rfl
     rw [e]
     exact (ih j (by omega) hj.2).2.2 n d ps x n1 (by omega) h0 h6
  exact fun n d ps n1 n6 h0 h6 => bin (6 - n).toNat n d ps (by omega) n1 h0 h6
theorem expr_s_is {k : Nat} (hk : k < l.length) (d : Int) (ps : List (List V)) (h0 : 0 <= d) : RsX l ps (partR l d k (tightW l 1 d k)) (den Sp syntax_reader_expr.id [.ref 0 0, .int .i64 d] [rsB l k ps] none) :=
 expr_s hl hn hk d ps fun h => (all_s hl hn _ k (Nat.le_refl _) hk).2.1 1 d ps (by decide) (by decide) h0 h
theorem syntax_ReadExpr_is (hr : den Sp lex_Right.id [.sl .no T_api_Token (l.map Tk.v)] [] none = some ⟨.ret (.bool true), [], none⟩) : ReadsE syntax_ReadExpr.id l := by
 intro k hk
 have h := expr_s_is hl hn hk 1 [] (by decide)
 have k1 : decide ((k : Int) < 0) = false := decide_eq_false (by omega)
 have k2 : decide ((k : Int) >= (l.length : Int)) = false := decide_eq_false (by omega)
 unfold readE
 unfold RsX at h
 rw [syntax_ReadExpr.eq]
 simp only [hr, k1, k2, List.length_map, lz, lx, if_true, if_false]
 rw [syntax_ReadExpr.J1_1_0_eq]
 cases hq : partR l 1 k (tightW l 1 1 k) with
 | error e =>
  rw [hq] at h
  obtain ⟨j, h⟩ := h
  (try unfold rsB at *); (try unfold tkB at *); (try unfold givenS at *)
  simp only [sleaf_v]
  simp only [h, syntax_ReadExpr_1.eq1, syntax_caught.eq, asTup_2, onPn_none, onPn_some, List.nil_append, lz, lx, if_true, if_false]
 | ok q =>
  obtain ⟨x, j⟩ := q
  rw [hq] at h
  simp only at h ⊢
  (try unfold rsB at *); (try unfold tkB at *); (try unfold givenS at *)
  simp only [h, syntax_ReadExpr_1.eq0, onPn_none, onPn_some, lz, lx, if_true, if_false]
end
end Go.Proofs.YtmhnmelaodhemaaGreatDoor
