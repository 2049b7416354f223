/- Checking statements: the program's. Own work. -/
import Derived.Test.YtkelkkjkbpdldaaPxTypes
import Derived.Test.YtkelkkjkbpdldaaPxFlat
import Derived.Test.YtkelkkjkbpdldaaRChk
namespace Go.Proofs.Ytkelkkjkbpdldaa
open Go Go.Proofs.Ab Go.Proofs.Px
set_option linter.unusedVariables false
set_option linter.unusedSimpArgs false
set_option maxRecDepth 100000

/-- The checker: variables, the mark at hand, the program, the procedure. -/
def chkB (vs : List Vr) (mark : Int) (ps : List Prc) (q : Prc) : Blk :=
  .cells T_check_checker [.sl .no T_api_Var (vs.map Vr.v), .int .i64 mark, .sl .no T_api_Proc (ps.map Prc.v), .str (B q.name), .sl .no T_api_Param (q.params.map Par.v), .int .i64 q.type, .sl .no T_api_Stmt (q.body.map Stm.v)] false
def typedE (vs : List Vr) (mark : Int) (x : Ex) (t : Int) : Int := if (tyP vs mark x).1 ≠ 0 then (tyP vs mark x).1 else if (tyP vs mark x).2 = t then 0 else 41
def calledP (name : List UInt8) : List Prc → Option Prc
  | [] => none
  | p :: l => if p.name = name then some p else calledP name l
def argsE (vs : List Vr) (mark : Int) : List Ex → List Par → Int
  | [], _ => 0
  | x :: l, [] => 0
  | x :: l, p :: ps => if typedE vs mark x p.type ≠ 0 then typedE vs mark x p.type else argsE vs mark l ps
/-- The error of what takes an answer. -/
def takesE (vs : List Vr) (mark : Int) (name : List UInt8) (t : Int) : Int :=
  if name = [] then 0 else match findV name mark vs with | none => 40 | some v => if v.size = 0 ∧ t ≠ 0 ∧ v.type = t then 0 else 41
def callE (vs : List Vr) (mark : Int) (ps : List Prc) (s : Stm) : Int := match calledP s.proc ps with
  | none => 40
  | some p => if s.e.length ≠ p.params.length then 41 else if argsE vs mark s.e p.params ≠ 0 then argsE vs mark s.e p.params else takesE vs mark s.name p.type
def returnsE (vs : List Vr) (mark : Int) (q : Prc) (l : List Ex) : Int := match l with
  | [] => if q.type = 0 then 0 else 41
  | [x] => if q.type = 0 then 41 else typedE vs mark x q.type
  | _ => 32
theorem has_is (vs : List Vr) (mark : Int) (ps : List Prc) (q : Prc) (s : Stm) (n : Int) :
    den Sp check_checker_has.id [.ref 0 0, .agg s.v, .int .i64 n] [chkB vs mark ps q] none = outB (chkB vs mark ps q) mark (if (s.e.length : Int) = n then 0 else 32) (.tup []) := by
  have e1 := need_true vs mark
  have e2 := need_false vs mark
  unfold outB chkB at *
  unfold namesB at *
  rw [Stm.v_is, check_checker_has.eq]
  by_cases h : (s.e.length : Int) = n <;> simp [h, e1, e2, givenV]
theorem typed_is (vs : List Vr) (hl : vs.length ≤ 140737488351232) (mark : Int) (ps : List Prc) (q : Prc) (x : Ex) (t : Int) :
    den Sp check_checker_typed.id [.ref 0 0, .agg x.v, .int .i64 t] [chkB vs mark ps q] none = outB (chkB vs mark ps q) mark (typedE vs mark x t) (.tup []) := by
  have e1 := need_true vs mark
  have e2 := need_false vs mark
  have e3 := expr_is vs hl mark x
  unfold outB chkB typedE at *
  unfold namesB at *
  rw [Ex.v_is, check_checker_typed.eq]
  by_cases h : (tyP vs mark x).1 = 0
  · by_cases h2 : (tyP vs mark x).2 = t <;> simp [h, h2, e1, e2, e3, givenV]
  · simp [h, e1, e2, e3, givenV]
theorem called_is (vs : List Vr) (mark : Int) (ps : List Prc) (hps : ps.length ≤ 140737488351232) (q : Prc) (name : List UInt8) :
    den Sp check_checker_called.id [.ref 0 0, .str (B name)] [chkB vs mark ps q] none =
    match calledP name ps with | some p => some ⟨.ret (.agg p.v), [chkB vs mark ps q], none⟩ | none => some ⟨.pan (givenV mark 40), [chkB vs mark ps q], none⟩ := by
  have e2 := need_false vs mark 40
  unfold chkB at *
  unfold namesB at *
  rw [check_checker_called.eq]
  have key : ∀ i : Nat, i ≤ ps.length → check_checker_called.L1_0_1_0 (B name) (ps.map Prc.v) (ps.length : Int) (i : Int) (vs.map Vr.v) mark (ps.map Prc.v) (B q.name) (q.params.map Par.v) q.type (q.body.map Stm.v) =
      match calledP name (ps.drop i) with | some p => some ⟨.ret (.agg p.v), [chkB vs mark ps q], none⟩ | none => some ⟨.pan (givenV mark 40), [chkB vs mark ps q], none⟩ := by
    unfold chkB
    refine down ?_ fun i hi ih => ?_
    · rw [check_checker_called.L1_0_1_0_eq]; simp [calledP, e2, givenV]
    · rw [check_checker_called.L1_0_1_0_eq, List.drop_eq_getElem_cons hi, calledP]
      simp only [Int.natCast_add, Int.natCast_one] at ih
      by_cases h1 : ps[i].name = name
      · simp [hi, h1, Prc.v]
      · simp (disch := first | omega | rfl | simp) [hi, h1, wrap_in, ih]
  have h0 := key 0 (Nat.zero_le _)
  unfold chkB at h0
  simpa using h0
theorem call_is (vs : List Vr) (hl : vs.length ≤ 140737488351232) (mark : Int) (ps : List Prc) (hps : ps.length ≤ 140737488351232) (q : Prc) (s : Stm) (hs : s.e.length ≤ 140737488351232) :
    den Sp check_checker_call.id [.ref 0 0, .agg s.v] [chkB vs mark ps q] none = outB (chkB vs mark ps q) mark (callE vs mark ps s) (.tup []) := by
  have e1 := need_true vs mark
  have e2 := need_false vs mark
  have e3 := called_is vs mark ps hps q s.proc
  have e4 := typed_is vs hl mark ps q
  have e5 := named_is vs hl mark s.name
  unfold outB chkB callE at *
  unfold namesB at *
  rw [Stm.v_is, check_checker_call.eq, e3]
  cases hc : calledP s.proc ps with
  | none => simp [givenV]
  | some p =>
    by_cases hn : s.e.length = p.params.length
    · have key : ∀ i : Nat, i ≤ s.e.length → check_checker_call.L1_1_1_0_1_0 (s.e.map Ex.v) (s.e.length : Int) (i : Int) (vs.map Vr.v) mark (ps.map Prc.v) (B q.name) (q.params.map Par.v) q.type (q.body.map Stm.v)
          s.kind (B s.name) (B s.proc) s.num (s.e.map Ex.v) (s.body.map Stm.v) (s.els.map Stm.v) (B p.name) (p.params.map Par.v) p.type (p.body.map Stm.v) =
          outB (chkB vs mark ps q) mark (if argsE vs mark (s.e.drop i) (p.params.drop i) ≠ 0 then argsE vs mark (s.e.drop i) (p.params.drop i) else takesE vs mark s.name p.type) (.tup []) := by
        unfold outB chkB
        refine down ?_ fun i hi ih => ?_
        · rw [check_checker_call.L1_1_1_0_1_0_eq]
          unfold takesE
          by_cases h1 : s.name = []
          · simp [h1, argsE]
          · cases hv : findV s.name mark vs with
            | none => simp [h1, argsE, e5, hv, givenV]
            | some v =>
              by_cases h2 : v.size = 0
              · by_cases h3 : p.type = 0
                · simp [h1, argsE, e5, hv, givenV, h2, h3, e2]
                · by_cases h4 : v.type = p.type <;> simp [h1, argsE, e5, hv, givenV, h2, h3, h4, e1, e2]
              · simp [h1, argsE, e5, hv, givenV, h2, e2]
        · have hi' : i < p.params.length := by omega
          rw [check_checker_call.L1_1_1_0_1_0_eq, List.drop_eq_getElem_cons hi, List.drop_eq_getElem_cons hi', argsE]
          simp only [Int.natCast_add, Int.natCast_one] at ih
          have e6 := e4 s.e[i] p.params[i].type
          by_cases h1 : typedE vs mark s.e[i] p.params[i].type = 0
          · simp (disch := first | omega | rfl | simp) [hi, hi', h1, wrap_in, ih, e6]
          · simp (disch := first | omega | rfl | simp) [hi, hi', h1, wrap_in, ih, e6, givenV]
      have h0 := key 0 (Nat.zero_le _)
      unfold outB chkB at h0
      simp at h0
      simp [hn, e1]
      rw [hn] at h0
      simpa using h0
    · have hn' : ¬ ((s.e.length : Int) = (p.params.length : Int)) := by omega
      simp [hn, hn', e2, givenV]
theorem returns_is (vs : List Vr) (hl : vs.length ≤ 140737488351232) (mark : Int) (ps : List Prc) (q : Prc) (s : Stm) :
    den Sp check_checker_returns.id [.ref 0 0, .agg s.v] [chkB vs mark ps q] none = outB (chkB vs mark ps q) mark (returnsE vs mark q s.e) (.tup []) := by
  have e1 := need_true vs mark
  have e2 := need_false vs mark
  have e4 := typed_is vs hl mark ps q
  unfold outB chkB returnsE at *
  unfold namesB at *
  rw [Stm.v_is, check_checker_returns.eq]
  match h : s.e with
  | [] => by_cases ht : q.type = 0 <;> simp [ht, e1, e2, givenV]
  | [x] =>
    by_cases ht : q.type = 0
    · simp [ht, e1, e2, givenV]
    · have e6 := e4 x q.type
      by_cases h1 : typedE vs mark x q.type = 0 <;> simp [ht, e1, e2, e6, h1, givenV]
  | x :: y :: l =>
    have h3 : ¬ ((l.length : Int) + 1 + 1 ≤ 1) := by omega
    simp [h3, e2, givenV]
end Go.Proofs.Ytkelkkjkbpdldaa
