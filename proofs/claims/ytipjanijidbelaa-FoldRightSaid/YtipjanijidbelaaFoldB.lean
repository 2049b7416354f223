/- Folding, plainly: constants, what is logical, the rules; what the program's words answer. Own work. -/
import Derived.Test.YtipjanijidbelaaEvalB
import Derived.Test.YtipjanijidbelaaRFoldX
namespace Go.Proofs.Ytipjanijidbelaa
open Go Go.Proofs.Ab Go.Proofs.Px
set_option linter.unusedVariables false
set_option linter.unusedSimpArgs false
set_option maxRecDepth 100000

/-- Is an expression just this number? -/
def Ex.isInt (x : Ex) (n : Int) : Bool := decide (x.kind = 1) && decide (x.num = n) && decide (x.l = [])
def Ex.isBool (x : Ex) (n : Int) : Bool := decide (x.kind = 2) && decide (x.num = n) && (match x.l with | [] => true | _ => false)
instance (l : List Ex) : Decidable (l = []) := match l with | [] => isTrue rfl | _ :: _ => isFalse nofun
theorem fold_isInt_is (x : Ex) (n : Int) : den Sp fold_isInt.id [.agg x.v, .int .i64 n] [] none = some ⟨.ret (.bool (x.isInt n)), [], none⟩ := by
  rw [Ex.v_is, fold_isInt.eq]
  unfold Ex.isInt
  by_cases h1 : x.kind = 1 <;> by_cases h2 : x.num = n <;> simp [h1, h2]
theorem fold_isBool_is (x : Ex) (n : Int) : den Sp fold_isBool.id [.agg x.v, .int .i64 n] [] none = some ⟨.ret (.bool (x.isBool n)), [], none⟩ := by
  rw [Ex.v_is, fold_isBool.eq]
  unfold Ex.isBool
  cases hl : x.l <;> by_cases h1 : x.kind = 2 <;> by_cases h2 : x.num = n <;> simp [h1, h2] <;> omega
/-- A number's expression. -/
def intE (n : Int) : Ex := .mk 1 [] n []
def boolE (n : Int) : Ex := .mk 2 [] n []
def minI : Int := -9223372036854775808
def litP (n : Int) : Ex := if 0 ≤ n then intE n else if n = minI then .mk 6 [45] 0 [.mk 5 [45] 0 [intE 9223372036854775807], intE 1] else .mk 5 [45] 0 [intE (-n)]
theorem lit_pos {n : Int} (h : 0 ≤ n) : den Sp fold_Lit.id [.int .i64 n] [] none = some ⟨.ret (.agg (intE n).v), [], none⟩ := by
  rw [fold_Lit.eq]
  unfold intE
  rw [Ex.v_mk, decide_eq_true h]; rfl
theorem lit_neg {n : Int} (h : n < 0) (h2 : -9223372036854775807 ≤ n) : den Sp fold_Lit.id [.int .i64 n] [] none = some ⟨.ret (.agg (Ex.mk 5 [45] 0 [intE (-n)]).v), [], none⟩ := by
  have e1 : IntKind.wrap IntKind.i64 (0 - n) = -n := by rw [wrap_in (by omega) (by omega)]; omega
  have e2 : ¬ n = -9223372036854775808 := by omega
  rw [fold_Lit.eq, decide_eq_false (show ¬ n ≥ 0 by omega), cond_false, int_beq, decide_eq_false e2, cond_false, e1, lit_pos (by omega)]
  simp [Ex.v_mk]
theorem fold_Lit_is (n : Int) (h : i64 n) : den Sp fold_Lit.id [.int .i64 n] [] none = some ⟨.ret (.agg (litP n).v), [], none⟩ := by
  unfold i64 at h
  unfold litP minI
  by_cases h0 : 0 ≤ n
  · rw [if_pos h0, lit_pos h0]
  · rw [if_neg h0]
    by_cases h1 : n = -9223372036854775808
    · subst h1
      have e1 : IntKind.wrap IntKind.i64 (-9223372036854775808 + 1) = -9223372036854775807 := by rw [wrap_in (by omega) (by omega)]; omega
      rw [if_pos rfl, fold_Lit.eq, decide_eq_false (by omega), cond_false, int_beq, decide_eq_true rfl, cond_true, e1, lit_neg (by omega) (by omega), lit_pos (by omega)]
      simp [Ex.v_mk]
    · rw [if_neg h1, lit_neg (by omega) (by omega)]
/-- The number of a constant. -/
def constK (k : Int) (s : List UInt8) (m : Int) (l : List Ex) (c0 : Option Int) : Option Int :=
  if builtP k s m l.length = false then none
  else if k = 1 then (if 0 ≤ m then some m else none)
  else if k = 2 then some m
  else if k = 5 ∧ s = [45] then (match l with
    | y :: _ => if y.kind = 1 ∧ y.l = [] ∧ 0 < y.num then some (-y.num) else none
    | [] => none)
  else if k = 6 ∧ s = [45] then (match l with
    | _ :: z :: _ => if z.isInt 1 = true ∧ c0 = some (-9223372036854775807) then some minI else none
    | _ => none)
  else none
mutual
def constP : Ex → Option Int
  | .mk k s m l => constK k s m l (constH l)
def constH : List Ex → Option Int
  | [] => none
  | x :: _ => constP x
end
def optV (o : Option Int) : Option Res := some ⟨.ret (.tup [.int .i64 (o.getD 0), .bool o.isSome]), [], none⟩
theorem fold_Const_is : ∀ x : Ex, ExOk x → den Sp fold_Const.id [.agg x.v] [] none = optV (constP x) := by
  refine Ex.ind fun k s m l ih hx => ?_
  obtain ⟨hk, hs, hm, hl, hok⟩ := hx.inv
  have hm' := i64_wf hm
  unfold i64 at hm'
  rw [Ex.v_mk, fold_Const.eq, fold_built_is, constP]
  unfold constK
  simp only [Option.bind_some, onRet_ret, asBool_bool, List.length_map]
  cases hb : builtP k s m l.length with
  | false => simp [optV]
  | true =>
    rw [if_neg (fun h => Bool.noConfusion h), Bool.not_true, cond_false]
    rcases built_forms hb with ⟨rfl, h⟩ | ⟨rfl, h⟩ | ⟨rfl, h⟩ | ⟨rfl, h⟩ | ⟨rfl, h, h5⟩ | ⟨rfl, h, h6⟩
    · by_cases h0 : 0 ≤ m
      · by_cases h1 : m > 0
        · simp [optV, h0, h1]
        · have : m = 0 := by omega
          subst this; simp [optV]
      · have : ¬ m > 0 := by omega
        simp [optV, h0, this]
    · simp [optV]
    · simp [optV]
    · simp [optV]
    · obtain ⟨y, rfl⟩ := List.length_eq_one_iff.1 h
      rcases h5 with rfl | rfl
      · have hy := (hok y (List.mem_singleton_self y))
        obtain ⟨yk, ys, ym, yl⟩ := y
        obtain ⟨_, _, ym', _, _⟩ := hy.inv
        have ym'' := i64_wf ym'
        unfold i64 at ym''
        by_cases a1 : yk = 1
        · subst a1
          cases yl with
          | nil =>
            by_cases a2 : ym > 0
            · have e1 : IntKind.wrap IntKind.i64 (-ym) = -ym := wrap_in (by omega) (by omega)
              simp [optV, a2, e1, Ex.v_mk]
            · simp [optV, a2, Ex.v_mk]
          | cons y1 yl1 =>
            have : ¬ ((yl1.length : Int) + 1 = 0) := by omega
            simp [optV, Ex.v_mk, this]
        · simp [optV, a1, Ex.v_mk]
      · simp [optV]
    · obtain ⟨y, z, rfl⟩ := two_of h
      have hy := ih y (List.mem_cons_self ..) (hok y (List.mem_cons_self ..))
      by_cases s1 : s = [45]
      · subst s1
        have e1 : constH [y, z] = constP y := by rw [constH]
        rw [e1]
        cases hz : z.isInt 1 with
        | false => simp [optV, fold_isInt_is, hz]
        | true =>
          cases hc : constP y with
          | none => simp [fold_isInt_is, hz, hy, hc, optV]
          | some n =>
            by_cases hn : n = -9223372036854775807
            · subst hn; simp [fold_isInt_is, hz, hy, hc, optV, minI]
            · simp [fold_isInt_is, hz, hy, hc, optV, hn]
      · simp [optV, s1]
/-- Is an expression true or false by its form? -/
def logicSigns : List (List UInt8) := [[61, 61], [33, 61], [60], [60, 61], [38, 38], [124, 124]]
def Ex.logic (x : Ex) : Bool := x.built && (decide (x.kind = 2) || decide (x.kind = 5) && decide (x.name = [33]) || decide (x.kind = 6) && decide (x.name ∈ logicSigns))
theorem fold_logic_is (x : Ex) : den Sp fold_logic.id [.agg x.v] [] none = some ⟨.ret (.bool x.logic), [], none⟩ := by
  rw [Ex.v_is, fold_logic.eq, fold_built_is]
  unfold Ex.logic Ex.built
  rw [List.length_map]
  simp only [Option.bind_some, onRet_ret, asBool_bool]
  cases builtP x.kind x.name x.num x.l.length with
  | false => rfl
  | true =>
    rw [Bool.true_and, Bool.not_true, cond_false]
    by_cases h2 : x.kind = 2
    · simp [h2]
    by_cases h5 : x.kind = 5
    · simp [h5]
    by_cases h6 : x.kind = 6
    · by_cases h : x.name ∈ logicSigns
      · have h' := h
        unfold logicSigns at h'
        simp only [List.mem_cons, List.not_mem_nil, or_false] at h'
        rcases h' with e | e | e | e | e | e <;> simp [h6, e, logicSigns]
      · have h' := h
        unfold logicSigns at h'
        simp only [List.mem_cons, List.not_mem_nil, or_false, not_or] at h'
        obtain ⟨g1, g2, g3, g4, g5, g6⟩ := h'
        simp [h6, g1, g2, g3, g4, g5, g6, h]
    · simp [h2, h5, h6]
end Go.Proofs.Ytipjanijidbelaa
