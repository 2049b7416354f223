/- Checking a statement, and statements: the program's. Own work. -/
import Derived.Test.YtkelkkjkbpdldaaPxChk
namespace Go.Proofs.Ytkelkkjkbpdldaa
open Go Go.Proofs.Ab Go.Proofs.Px
set_option linter.unusedVariables false
set_option linter.unusedSimpArgs false
set_option maxRecDepth 100000

/-- The error of a statement that has a variable: a plain one of a type (0: any), or an array. -/
def stmtE (vs : List Vr) (mark : Int) (ps : List Prc) (q : Prc) (s : Stm) : Int :=
  if s.body ≠ [] ∧ s.kind ≠ 4 ∧ s.kind ≠ 5 then 32
  else if s.els ≠ [] ∧ s.kind ≠ 4 then 32
  else if s.kind = 1 then (if s.e.length ≠ 0 then 32 else if s.num < -1 then 32 else if 64 < s.num then 2 else 0)
  else if s.kind = 2 then (match s.e with
    | [x] => (match findV s.name mark vs with | none => 40 | some v => if v.size = 0 then typedE vs mark x v.type else 41)
    | _ => 32)
  else if s.kind = 3 then (match s.e with
    | [x, y] => (match findV s.name mark vs with | none => 40 | some v => if 0 < v.size then (if typedE vs mark x 1 ≠ 0 then typedE vs mark x 1 else typedE vs mark y 1) else 41)
    | _ => 32)
  else if s.kind = 4 ∨ s.kind = 5 ∨ s.kind = 10 then (match s.e with | [x] => typedE vs mark x 2 | _ => 32)
  else if s.kind = 8 then (match s.e with | [x] => (tyP vs mark x).1 | _ => 32)
  else if s.kind = 9 then (match s.e with
    | [] => (match findV s.name mark vs with | none => 40 | some v => if v.size = 0 ∧ v.type = 1 then 0 else 41)
    | _ => 32)
  else if s.kind = 6 then callE vs mark ps s
  else if s.kind = 7 then returnsE vs mark q s.e
  else 32
theorem bool_stmt_is (i : Int) (vs : List Vr) (hl : vs.length ≤ 140737488351232) (mark : Int) (ps : List Prc) (q : Prc) (k : Int) (n p : List UInt8) (m : Int) (e : List Ex) (b l : List Stm) :
    check_checker_stmt.J1_1_1_1_0_1_1_1_1_1_1_1_0_0 i (vs.map Vr.v) mark (ps.map Prc.v) (B q.name) (q.params.map Par.v) q.type (q.body.map Stm.v) k (B n) (B p) m (e.map Ex.v) (b.map Stm.v) (l.map Stm.v) =
    outB (chkB vs mark ps q) mark (match e with | [x] => typedE vs mark x 2 | _ => 32) (.tup []) := by
  have e1 := has_is vs mark ps q (.mk k n p m e b l) 1
  have e4 := typed_is vs hl mark ps q
  rw [Stm.v_mk] at e1
  simp only [Stm.e_mk] at e1
  unfold outB chkB at *
  rw [check_checker_stmt.J1_1_1_1_0_1_1_1_1_1_1_1_0_0_eq]
  match e with
  | [] => simp at e1; simp [e1, givenV]
  | [x] =>
    simp at e1
    have e6 := e4 x 2
    by_cases h1 : typedE vs mark x 2 = 0 <;> simp [e1, e6, h1, givenV]
  | x :: y :: l =>
    have h3 : ¬ ((l.length : Int) + 1 + 1 = 1) := by omega
    simp [h3] at e1
    simp [e1, givenV]
theorem rest_stmt_is (i : Int) (vs : List Vr) (hl : vs.length ≤ 140737488351232) (mark : Int) (ps : List Prc) (q : Prc) (k : Int) (n p : List UInt8) (m : Int) (e : List Ex) (b l : List Stm) (hc : den Sp check_checker_call.id [.ref 0 0, .agg (Stm.mk k n p m e b l).v] [chkB vs mark ps q] none = outB (chkB vs mark ps q) mark (callE vs mark ps (.mk k n p m e b l)) (.tup []))
    (h1 : k ≠ 1) (h2 : k ≠ 2) (h3 : k ≠ 3) (h4 : k ≠ 4) (h5 : k ≠ 5) (h10 : k ≠ 10) (hb : b = []) (hl : l = []) :
    check_checker_stmt.J1_1_1_1_0_1_1_1_1_1_1_1_1_0 k (vs.map Vr.v) mark (ps.map Prc.v) (B q.name) (q.params.map Par.v) q.type (q.body.map Stm.v) k (B n) (B p) m (e.map Ex.v) (b.map Stm.v) (l.map Stm.v) =
    outB (chkB vs mark ps q) mark (stmtE vs mark ps q (.mk k n p m e b l)) (.tup []) := by
  rename_i hvs
  subst hb hl
  have e1 := has_is vs mark ps q
  have n1 := need_true vs mark
  have n2 := need_false vs mark
  have e3 := expr_is vs hvs mark
  have e5 := named_is vs hvs mark n
  have e8 := returns_is vs hvs mark ps q (.mk k n p m e [] [])
  rw [Stm.v_mk] at hc e8
  unfold stmtE
  simp only [Stm.kind_mk, Stm.body_mk, Stm.els_mk, Stm.e_mk, Stm.name_mk, Stm.num_mk]
  simp only [Stm.e_mk] at e8
  unfold outB chkB at *
  unfold namesB at *
  rw [check_checker_stmt.J1_1_1_1_0_1_1_1_1_1_1_1_1_0_eq]
  by_cases h8 : k = 8
  · subst h8
    match e with
    | [] => have g := e1 (.mk 8 n p m [] [] []) 1; rw [Stm.v_mk] at g; simp at g; simp [g, givenV]
    | [x] =>
      have g := e1 (.mk 8 n p m [x] [] []) 1; rw [Stm.v_mk] at g; simp at g
      have e6 := e3 x
      by_cases c : (tyP vs mark x).1 = 0 <;> simp [g, e6, c, givenV]
    | x :: y :: l =>
      have h3 : ¬ ((l.length : Int) + 1 + 1 = 1) := by omega
      have g := e1 (.mk 8 n p m (x :: y :: l) [] []) 1; rw [Stm.v_mk] at g; simp [h3] at g; simp [g, givenV]
  by_cases h9 : k = 9
  · subst h9
    match e with
    | [] =>
      have g := e1 (.mk 9 n p m [] [] []) 0; rw [Stm.v_mk] at g; simp at g
      cases hv : findV n mark vs with
      | none => simp [g, e5, hv, givenV]
      | some v =>
        by_cases c1 : v.size = 0
        · by_cases c2 : v.type = 1 <;> simp [g, e5, hv, givenV, c1, c2, n1, n2]
        · simp [g, e5, hv, givenV, c1, n2]
    | x :: l =>
      have h3 : ¬ ((l.length : Int) + 1 = 0) := by omega
      have g := e1 (.mk 9 n p m (x :: l) [] []) 0; rw [Stm.v_mk] at g; simp [h3] at g; simp [g, givenV]
  by_cases h6 : k = 6
  · subst h6
    simp at hc
    by_cases c : callE vs mark ps (.mk 6 n p m e [] []) = 0 <;> simp [hc, c, givenV]
  by_cases h7 : k = 7
  · subst h7
    simp at e8
    by_cases c : returnsE vs mark q e = 0 <;> simp [e8, c, givenV]
  simp [h1, h2, h3, h4, h5, h6, h7, h8, h9, h10, n2, givenV]
theorem stmt_is (vs : List Vr) (hl : vs.length ≤ 140737488351232) (mark : Int) (ps : List Prc) (hps : ps.length ≤ 140737488351232) (q : Prc) (s : Stm) (hs : s.e.length ≤ 140737488351232) :
    den Sp check_checker_stmt.id [.ref 0 0, .agg s.v] [chkB vs mark ps q] none = outB (chkB vs mark ps q) mark (stmtE vs mark ps q s) (.tup []) := by
  have e7 := call_is vs hl mark ps hps q s hs
  obtain ⟨k, n, p, m, e, b, l⟩ := s
  have e0 := has_is vs mark ps q
  have e1 := need_true vs mark
  have e2 := need_false vs mark
  have e4 := typed_is vs hl mark ps q
  have e5 := named_is vs hl mark n
  have eb := fun i => bool_stmt_is i vs hl mark ps q k n p m e b l
  have er := fun h1 h2 h3 h4 h5 h10 hb hl' => rest_stmt_is k vs hl mark ps q k n p m e b l e7 h1 h2 h3 h4 h5 h10 hb hl'
  unfold outB chkB at *
  unfold namesB at *
  have els : ∀ l : List Stm, l ≠ [] → ¬ ((l.length : Int) = 0) := fun l h1 h2 => h1 (List.eq_nil_of_length_eq_zero (by omega))
  have third : (l = [] ∨ k = 4) → (b = [] ∨ k = 4 ∨ k = 5) → check_checker_stmt.J1_1_1_0 (vs.map Vr.v) mark (ps.map Prc.v) (B q.name) (q.params.map Par.v) q.type (q.body.map Stm.v) k (B n) (B p) m (e.map Ex.v) (b.map Stm.v) (l.map Stm.v) =
      outB (chkB vs mark ps q) mark (stmtE vs mark ps q (.mk k n p m e b l)) (.tup []) := by
    intro hl0 hb0
    have c1 : ¬ (b ≠ [] ∧ k ≠ 4 ∧ k ≠ 5) := fun h => hb0.elim h.1 fun h2 => h2.elim h.2.1 h.2.2
    have c2 : ¬ (l ≠ [] ∧ k ≠ 4) := fun h => hl0.elim h.1 h.2
    unfold outB chkB stmtE
    simp only [Stm.kind_mk, Stm.body_mk, Stm.els_mk, Stm.e_mk, Stm.name_mk, Stm.num_mk, if_neg c1, if_neg c2]
    rw [check_checker_stmt.J1_1_1_0_eq]
    by_cases k4 : k = 4
    · subst k4
      simp only [int_beq, show decide ((4 : Int) = 1) = false from rfl, show decide ((4 : Int) = 2) = false from rfl, show decide ((4 : Int) = 3) = false from rfl, decide_true, cond_true, cond_false]
      rw [eb]
      simp
    by_cases k5 : k = 5
    · have hl1 : l = [] := hl0.elim id fun h => absurd h k4
      subst k5
      simp only [int_beq, show decide ((5 : Int) = 1) = false from rfl, show decide ((5 : Int) = 2) = false from rfl, show decide ((5 : Int) = 3) = false from rfl, show decide ((5 : Int) = 4) = false from rfl, decide_true, cond_true, cond_false]
      rw [eb]
      simp [hl1]
    by_cases k10 : k = 10
    · have hl1 : l = [] := hl0.elim id fun h => absurd h k4
      have hb1 : b = [] := hb0.elim id fun h => h.elim (fun h => absurd h k4) fun h => absurd h k5
      subst k10
      simp only [int_beq, show decide ((10 : Int) = 1) = false from rfl, show decide ((10 : Int) = 2) = false from rfl, show decide ((10 : Int) = 3) = false from rfl, show decide ((10 : Int) = 4) = false from rfl, show decide ((10 : Int) = 5) = false from rfl, decide_true, cond_true, cond_false]
      rw [eb]
      simp [hl1, hb1]
    have hl1 : l = [] := hl0.elim id fun h => absurd h k4
    have hb1 : b = [] := hb0.elim id fun h => h.elim (fun h => absurd h k4) fun h => absurd h k5
    subst hl1 hb1
    by_cases k1 : k = 1
    · subst k1
      simp only [int_beq, decide_true, cond_true]
      match e with
      | [] =>
        have g := e0 (.mk 1 n p m [] [] []) 0; rw [Stm.v_mk] at g; simp at g
        by_cases d1 : m < -1
        · simp [g, e1, e2, d1, show ¬ (-1 ≤ m) by omega, givenV]
        · by_cases d2 : 64 < m
          · simp [g, e1, e2, d1, d2, show -1 ≤ m by omega, show ¬ (m ≤ 64) by omega, givenV]
          · simp [g, e1, e2, d1, d2, show -1 ≤ m by omega, show m ≤ 64 by omega, givenV]
      | x :: l =>
        have h3 : ¬ ((l.length : Int) + 1 = 0) := by omega
        have g := e0 (.mk 1 n p m (x :: l) [] []) 0; rw [Stm.v_mk] at g; simp [h3] at g; simp [g, givenV]
    by_cases k2 : k = 2
    · subst k2
      have t1 : decide ((2 : Int) = 1) = false := rfl
      simp only [int_beq, t1, decide_true, cond_true, cond_false]
      match e with
      | [] => have g := e0 (.mk 2 n p m [] [] []) 1; rw [Stm.v_mk] at g; simp at g; simp [g, givenV]
      | [x] =>
        have g := e0 (.mk 2 n p m [x] [] []) 1; rw [Stm.v_mk] at g; simp at g
        cases hv : findV n mark vs with
        | none => simp [g, e5, hv, givenV]
        | some v =>
          have e6 := e4 x v.type
          by_cases d1 : v.size = 0
          · by_cases d2 : typedE vs mark x v.type = 0 <;> simp [g, e5, hv, givenV, d1, d2, e1, e6]
          · simp [g, e5, hv, givenV, d1, e2]
      | x :: y :: l =>
        have h3 : ¬ ((l.length : Int) + 1 + 1 = 1) := by omega
        have g := e0 (.mk 2 n p m (x :: y :: l) [] []) 1; rw [Stm.v_mk] at g; simp [h3] at g; simp [g, givenV]
    by_cases k3 : k = 3
    · subst k3
      have t1 : decide ((3 : Int) = 1) = false := rfl
      have t2 : decide ((3 : Int) = 2) = false := rfl
      simp only [int_beq, t1, t2, decide_true, cond_true, cond_false]
      match e with
      | [] => have g := e0 (.mk 3 n p m [] [] []) 2; rw [Stm.v_mk] at g; simp at g; simp [g, givenV]
      | [x] => have g := e0 (.mk 3 n p m [x] [] []) 2; rw [Stm.v_mk] at g; simp at g; simp [g, givenV]
      | [x, y] =>
        have g := e0 (.mk 3 n p m [x, y] [] []) 2; rw [Stm.v_mk] at g; simp at g
        cases hv : findV n mark vs with
        | none => simp [g, e5, hv, givenV]
        | some v =>
          have e6 := e4 x 1
          have e6' := e4 y 1
          by_cases d1 : 0 < v.size
          · by_cases d2 : typedE vs mark x 1 = 0
            · by_cases d3 : typedE vs mark y 1 = 0 <;> simp [g, e5, hv, givenV, d1, d2, d3, e1, e6, e6']
            · simp [g, e5, hv, givenV, d1, d2, e1, e6]
          · simp [g, e5, hv, givenV, d1, e2]
      | x :: y :: z :: l =>
        have h3 : ¬ ((l.length : Int) + 1 + 1 + 1 = 2) := by omega
        have g := e0 (.mk 3 n p m (x :: y :: z :: l) [] []) 2; rw [Stm.v_mk] at g; simp [h3] at g; simp [g, givenV]
    have er := er k1 k2 k3 k4 k5 k10 rfl rfl
    unfold stmtE at er
    simp only [Stm.kind_mk, Stm.body_mk, Stm.els_mk, Stm.e_mk, Stm.name_mk, Stm.num_mk, if_neg c1, if_neg c2] at er
    simp only [int_beq, decide_eq_false k1, decide_eq_false k2, decide_eq_false k3, decide_eq_false k4, decide_eq_false k5, decide_eq_false k10, cond_false]
    exact er
  have second : (b = [] ∨ k = 4 ∨ k = 5) → check_checker_stmt.J1_1_0 (vs.map Vr.v) mark (ps.map Prc.v) (B q.name) (q.params.map Par.v) q.type (q.body.map Stm.v) k (B n) (B p) m (e.map Ex.v) (b.map Stm.v) (l.map Stm.v) =
      outB (chkB vs mark ps q) mark (stmtE vs mark ps q (.mk k n p m e b l)) (.tup []) := by
    intro hb0
    have c1 : ¬ (b ≠ [] ∧ k ≠ 4 ∧ k ≠ 5) := fun h => hb0.elim h.1 fun h2 => h2.elim h.2.1 h.2.2
    rw [check_checker_stmt.J1_1_0_eq]
    by_cases hl0 : l = []
    · have := third (.inl hl0) hb0
      subst hl0
      simp only [List.map_nil] at this
      simp [e1, this]
    · by_cases k4 : k = 4
      · have := third (.inr k4) hb0
        simp [e1, this, els l hl0, hl0, k4]
        rw [k4] at this
        exact this
      · unfold stmtE outB chkB
        simp only [Stm.kind_mk, Stm.body_mk, Stm.els_mk, if_neg c1, if_pos (show l ≠ [] ∧ k ≠ 4 from ⟨hl0, k4⟩)]
        simp [els l hl0, hl0, k4, e2, givenV]
  rw [Stm.v_mk, check_checker_stmt.eq]
  by_cases hb0 : b = []
  · have := second (.inl hb0)
    subst hb0
    simp only [List.map_nil] at this
    simp [e1, this]
    rfl
  · by_cases k4 : k = 4
    · have := second (.inr (.inl k4))
      rw [k4] at this ⊢
      simp [e1, this, els b hb0, hb0]
      rfl
    · by_cases k5 : k = 5
      · have := second (.inr (.inr k5))
        rw [k5] at this ⊢
        simp [e1, this, els b hb0, hb0]
        rfl
      · unfold stmtE
        simp only [Stm.kind_mk, Stm.body_mk, Stm.els_mk, if_pos (show b ≠ [] ∧ k ≠ 4 ∧ k ≠ 5 from ⟨hb0, k4, k5⟩)]
        simp [els b hb0, hb0, k4, k5, e2, givenV]
end Go.Proofs.Ytkelkkjkbpdldaa
