/- Checking procedures: the program's. Own work. -/
import Derived.Test.YtkelkkjkbpdldaaPxChkS
import Derived.Test.YtkelkkjkbpdldaaPxCnt
import Derived.Test.YtkelkkjkbpdldaaRChkP
namespace Go.Proofs.Ytkelkkjkbpdldaa
open Go Go.Proofs.Ab Go.Proofs.Px
set_option linter.unusedVariables false
set_option linter.unusedSimpArgs false
set_option maxRecDepth 100000

/-- Statements one after the other: the last mark that was looked at, and the error. -/
def runE (f : Int → Stm → Int) : Int → List Stm → Int × Int
  | m, [] => (m, 0)
  | m, s :: l => if f (m + 1) s ≠ 0 then (m + 1, f (m + 1) s) else runE f (m + 1) l
theorem runE_app (f : Int → Stm → Int) : ∀ (a : List Stm) (m : Int) (b : List Stm), runE f m (a ++ b) = if (runE f m a).2 ≠ 0 then runE f m a else runE f (runE f m a).1 b
  | [], m, b => by simp [runE]
  | s :: a, m, b => by
    simp only [List.cons_append, runE]
    by_cases h : f (m + 1) s = 0
    · simp only [h]; simpa using runE_app f a (m + 1) b
    · simp [h]
theorem runE_mark (f : Int → Stm → Int) : ∀ (a : List Stm) (m : Int), m ≤ (runE f m a).1 ∧ (runE f m a).1 ≤ m + (a.length : Int) ∧ ((runE f m a).2 = 0 → (runE f m a).1 = m + (a.length : Int))
  | [], m => by simp [runE]
  | s :: a, m => by
    have h := runE_mark f a (m + 1)
    unfold runE
    by_cases c : f (m + 1) s = 0
    · simp only [c, ne_eq, not_true_eq_false, if_false, List.length_cons]
      refine ⟨by omega, by omega, fun h2 => ?_⟩
      have := h.2.2 h2; omega
    · rw [if_pos c]
      refine ⟨by simp only; omega, by simp only [List.length_cons]; omega, fun h2 => absurd h2 c⟩
def runB (vs : List Vr) (ps : List Prc) (q : Prc) (r : Int × Int) : Option Res := some ⟨if r.2 = 0 then .ret (.tup []) else .pan (givenV r.1 r.2), [chkB vs r.1 ps q], none⟩
theorem stmts_is (vs : List Vr) (hl : vs.length ≤ 140737488351232) (ps : List Prc) (hps : ps.length ≤ 140737488351232) (q : Prc) : ∀ l : List Stm, (∀ s ∈ l, StmOk s) → ∀ m : Int, 0 ≤ m → m + (Stm.counts l : Int) ≤ 3000000 →
    den Sp check_checker_stmts.id [.ref 0 0, .sl .no T_api_Stmt (l.map Stm.v)] [chkB vs m ps q] none = runB vs ps q (runE (fun m s => stmtE vs m ps q s) m (Stm.flats l)) := by
  refine Stm.ind_list fun l ih hok m h0 h1 => ?_
  have hlen := Stm.counts_len l
  have e1 := fun m s hs => stmt_is vs hl m ps hps q s hs
  have key : ∀ i : Nat, i ≤ l.length → ∀ m : Int, 0 ≤ m → m + (Stm.counts (l.drop i) : Int) ≤ 3000000 → check_checker_stmts.L1_0 (l.map Stm.v) (l.length : Int) (i : Int) (vs.map Vr.v) m (ps.map Prc.v) (B q.name) (q.params.map Par.v) q.type (q.body.map Stm.v) =
      runB vs ps q (runE (fun m s => stmtE vs m ps q s) m (Stm.flats (l.drop i))) := by
    refine down (fun m _ _ => ?_) fun i hi ihi m g0 g1 => ?_
    · rw [check_checker_stmts.L1_0_eq]; simp [runB, runE, Stm.flats, chkB]
    · have hm := List.getElem_mem hi
      have ho := (hok _ hm).inv'
      rw [Stm.counts_drop hi, Stm.count_is] at g1
      have e2 := e1 (m + 1) l[i] ho.he
      rw [check_checker_stmts.L1_0_eq, Stm.flats_drop hi, Stm.flat_is, List.cons_append]
      simp only [runE]
      by_cases c1 : stmtE vs (m + 1) ps q l[i] = 0
      · have e3 := (ih _ hm).1 ho.hbs (m + 1) (by omega) (by omega)
        have r3 := runE_mark (fun m s => stmtE vs m ps q s) (Stm.flats l[i].body) (m + 1)
        rw [Stm.flats_len] at r3
        rw [List.append_assoc, runE_app]
        generalize runE (fun m s => stmtE vs m ps q s) (m + 1) (Stm.flats l[i].body) = r at e3 r3 ⊢
        obtain ⟨m2, x2⟩ := r
        by_cases c2 : x2 = 0
        · have r4 := r3.2.2 c2
          have e4 := (ih _ hm).2 ho.hls m2 (by omega) (by simp only at r4; omega)
          have r5 := runE_mark (fun m s => stmtE vs m ps q s) (Stm.flats l[i].els) m2
          rw [Stm.flats_len] at r5
          simp only [c2, ne_eq, not_true_eq_false, if_false]
          rw [runE_app]
          generalize runE (fun m s => stmtE vs m ps q s) m2 (Stm.flats l[i].els) = r at e4 r5 ⊢
          obtain ⟨m3, x3⟩ := r
          unfold runB outB chkB at *
          by_cases c3 : x3 = 0
          · have r6 := r5.2.2 c3
            have e5 := ihi m3 (by simp only at r4 r6; omega) (by simp only at r4 r6; omega)
            simp only [Int.natCast_add, Int.natCast_one] at e5
            subst c3 c2
            simp only [if_pos] at e3 e4
            simp (disch := first | omega | rfl | simp) [hi, wrap_in, e2, c1, e3, e4, e5]
          · subst c2
            simp only [if_pos] at e3
            simp (disch := first | omega | rfl | simp) [hi, wrap_in, e2, c1, e3, e4, c3, givenV]
        · unfold runB outB chkB at *
          simp (disch := first | omega | rfl | simp) [hi, wrap_in, e2, c1, e3, c2, givenV]
      · unfold runB outB chkB at *
        simp (disch := first | omega | rfl | simp) [hi, wrap_in, e2, c1, givenV]
  have h2 := key 0 (Nat.zero_le _) m h0 (by simpa using h1)
  unfold chkB
  rw [check_checker_stmts.eq]
  simpa using h2
/-- A variable that a statement declares. -/
def varOf (s : Stm) (m last : Int) : Vr := ⟨s.name, if s.num = -1 then 2 else 1, if s.num = -1 then 0 else if 65 < s.num then 65 else s.num, m + 1, last⟩
/-- The variables of a row of statements, the first one's mark being given. -/
def varsOf : List (Stm × Int) → Int → List Vr
  | [], _ => []
  | (s, last) :: l, m => if s.kind = 1 then varOf s m last :: varsOf l (m + 1) else varsOf l (m + 1)
theorem varsOf_app : ∀ (a b : List (Stm × Int)) (m : Int), varsOf (a ++ b) m = varsOf a m ++ varsOf b (m + (a.length : Int))
  | [], b, m => by simp [varsOf]
  | (s, last) :: a, b, m => by
    have h := varsOf_app a b (m + 1)
    have e : m + 1 + (a.length : Int) = m + ((a.length : Int) + 1) := by omega
    rw [e] at h
    simp only [List.cons_append, varsOf, List.length_cons, Int.natCast_add, Int.natCast_one]
    by_cases c : s.kind = 1 <;> simp [c, h]
theorem varsOf_len : ∀ (a : List (Stm × Int)) (m : Int), (varsOf a m).length ≤ a.length
  | [], m => by simp [varsOf]
  | (s, last) :: a, m => by
    have h := varsOf_len a (m + 1)
    unfold varsOf
    split <;> simp <;> omega
def declP (l : List Stm) (m : Int) : List Vr := varsOf (Stm.items l m (m + (Stm.counts l : Int) - 1)) m
theorem decl_step0 {l : List Stm} {i : Nat} (hi : i < l.length) (k1 : l[i].kind ≠ 1) (hl : l.length ≤ 1000000) (m last : Int) (acc D1 D2 : List Vr) (g0 : 0 ≤ m) (g1 : m + (l[i].count : Int) ≤ 3000000) (hacc : acc.length + l[i].count ≤ 1000000) (d1 : D1.length ≤ Stm.counts l[i].body) (d2 : D2.length ≤ Stm.counts l[i].els)
    (h1 : den Sp check_declared.id [.sl .no T_api_Stmt (l[i].body.map Stm.v), .int .i64 (m + 1)] [] none = some ⟨.ret (.sl .no T_api_Var (D1.map Vr.v)), [], none⟩)
    (h2 : den Sp check_declared.id [.sl .no T_api_Stmt (l[i].els.map Stm.v), .int .i64 (m + 1 + (Stm.counts l[i].body : Int))] [] none = some ⟨.ret (.sl .no T_api_Var (D2.map Vr.v)), [], none⟩) :
    check_declared.L1_1_1_0_1_0 m (acc.map Vr.v) last (l.map Stm.v) (l.length : Int) (i : Int) = check_declared.L1_1_1_0_1_0 (m + (l[i].count : Int)) ((acc ++ ((if l[i].kind = 1 then [varOf l[i] m last] else []) ++ (D1 ++ D2))).map Vr.v) last (l.map Stm.v) (l.length : Int) ((i + 1 : Nat) : Int) := by
  rw [Stm.count_is] at *
  have c1 := check_count_is l[i].body (by omega)
  have c2 := check_count_is l[i].els (by omega)
  rw [check_declared.L1_1_1_0_1_0_eq]
  simp (disch := omega) [hi, h1, h2, c1, c2, wrap_in, most_if, k1]
theorem decl_step1 {l : List Stm} {i : Nat} (hi : i < l.length) (k1 : l[i].kind = 1) (hl : l.length ≤ 1000000) (m last : Int) (acc D1 D2 : List Vr) (g0 : 0 ≤ m) (g1 : m + (l[i].count : Int) ≤ 3000000) (hacc : acc.length + l[i].count ≤ 1000000) (d1 : D1.length ≤ Stm.counts l[i].body) (d2 : D2.length ≤ Stm.counts l[i].els)
    (h1 : den Sp check_declared.id [.sl .no T_api_Stmt (l[i].body.map Stm.v), .int .i64 (m + 1)] [] none = some ⟨.ret (.sl .no T_api_Var (D1.map Vr.v)), [], none⟩)
    (h2 : den Sp check_declared.id [.sl .no T_api_Stmt (l[i].els.map Stm.v), .int .i64 (m + 1 + (Stm.counts l[i].body : Int))] [] none = some ⟨.ret (.sl .no T_api_Var (D2.map Vr.v)), [], none⟩) :
    check_declared.L1_1_1_0_1_0 m (acc.map Vr.v) last (l.map Stm.v) (l.length : Int) (i : Int) = check_declared.L1_1_1_0_1_0 (m + (l[i].count : Int)) ((acc ++ ((if l[i].kind = 1 then [varOf l[i] m last] else []) ++ (D1 ++ D2))).map Vr.v) last (l.map Stm.v) (l.length : Int) ((i + 1 : Nat) : Int) := by
  rw [Stm.count_is] at *
  have c1 := check_count_is l[i].body (by omega)
  have c2 := check_count_is l[i].els (by omega)
  rw [check_declared.L1_1_1_0_1_0_eq]
  unfold varOf
  by_cases k2 : l[i].num = -1
  · simp (disch := omega) [hi, h1, h2, c1, c2, wrap_in, most_if, k1, k2, Vr.v]
  · simp (disch := omega) [hi, h1, h2, c1, c2, wrap_in, most_if, k1, k2, Vr.v]
theorem decl_step {l : List Stm} {i : Nat} (hi : i < l.length) (hl : l.length ≤ 1000000) (m last : Int) (acc D1 D2 : List Vr) (g0 : 0 ≤ m) (g1 : m + (l[i].count : Int) ≤ 3000000) (hacc : acc.length + l[i].count ≤ 1000000) (d1 : D1.length ≤ Stm.counts l[i].body) (d2 : D2.length ≤ Stm.counts l[i].els)
    (h1 : den Sp check_declared.id [.sl .no T_api_Stmt (l[i].body.map Stm.v), .int .i64 (m + 1)] [] none = some ⟨.ret (.sl .no T_api_Var (D1.map Vr.v)), [], none⟩)
    (h2 : den Sp check_declared.id [.sl .no T_api_Stmt (l[i].els.map Stm.v), .int .i64 (m + 1 + (Stm.counts l[i].body : Int))] [] none = some ⟨.ret (.sl .no T_api_Var (D2.map Vr.v)), [], none⟩) :
    check_declared.L1_1_1_0_1_0 m (acc.map Vr.v) last (l.map Stm.v) (l.length : Int) (i : Int) = check_declared.L1_1_1_0_1_0 (m + (l[i].count : Int)) ((acc ++ ((if l[i].kind = 1 then [varOf l[i] m last] else []) ++ (D1 ++ D2))).map Vr.v) last (l.map Stm.v) (l.length : Int) ((i + 1 : Nat) : Int) := by
  by_cases k1 : l[i].kind = 1
  · exact decl_step1 hi k1 hl m last acc D1 D2 g0 g1 hacc d1 d2 h1 h2
  · exact decl_step0 hi k1 hl m last acc D1 D2 g0 g1 hacc d1 d2 h1 h2
theorem check_declared_is : ∀ l : List Stm, Stm.counts l ≤ 1000000 → ∀ m : Int, 0 ≤ m → m + (Stm.counts l : Int) ≤ 3000000 → den Sp check_declared.id [.sl .no T_api_Stmt (l.map Stm.v), .int .i64 m] [] none = some ⟨.ret (.sl .no T_api_Var ((declP l m).map Vr.v)), [], none⟩ := by
  refine Stm.ind_list fun l ih hc m g0 g1 => ?_
  have hlen := Stm.counts_len l
  have key : ∀ i : Nat, i ≤ l.length → ∀ (m : Int) (acc : List Vr), 0 ≤ m → m + (Stm.counts (l.drop i) : Int) ≤ 3000000 → acc.length + Stm.counts (l.drop i) ≤ 1000000 → ∀ last : Int,
      check_declared.L1_1_1_0_1_0 m (acc.map Vr.v) last (l.map Stm.v) (l.length : Int) (i : Int) = some ⟨.ret (.sl .no T_api_Var ((acc ++ varsOf (Stm.items (l.drop i) m last) m).map Vr.v)), [], none⟩ := by
    refine down (fun m acc _ _ _ last => ?_) fun i hi ihi m acc hn h hacc last => ?_
    · rw [check_declared.L1_1_1_0_1_0_eq]; simp [Stm.items, varsOf]
    · rw [Stm.counts_drop hi, Stm.count_is] at h hacc
      have hm := List.getElem_mem hi
      have h1 := (ih _ hm).1 (by omega) (m + 1) (by omega) (by omega)
      have h2 := (ih _ hm).2 (by omega) (m + 1 + (Stm.counts l[i].body : Int)) (by omega) (by omega)
      have v1 := varsOf_len (Stm.items l[i].body (m + 1) (m + 1 + (Stm.counts l[i].body : Int) - 1)) (m + 1)
      have v2 := varsOf_len (Stm.items l[i].els (m + 1 + (Stm.counts l[i].body : Int)) (m + 1 + (Stm.counts l[i].body : Int) + (Stm.counts l[i].els : Int) - 1)) (m + 1 + (Stm.counts l[i].body : Int))
      rw [Stm.items_len] at v1 v2
      have d1 : declP l[i].body (m + 1) = varsOf (Stm.items l[i].body (m + 1) (m + 1 + (Stm.counts l[i].body : Int) - 1)) (m + 1) := rfl
      have d2 : declP l[i].els (m + 1 + (Stm.counts l[i].body : Int)) = varsOf (Stm.items l[i].els (m + 1 + (Stm.counts l[i].body : Int)) (m + 1 + (Stm.counts l[i].body : Int) + (Stm.counts l[i].els : Int) - 1)) (m + 1 + (Stm.counts l[i].body : Int)) := rfl
      rw [← d1] at v1
      rw [← d2] at v2
      rw [Stm.items_drop hi, Stm.item_is, List.cons_append, varsOf, varsOf_app, varsOf_app, ← d1, Stm.items_len, ← d2, List.length_append, Stm.items_len, Stm.items_len]
      have e3 : m + 1 + ((Stm.counts l[i].body + Stm.counts l[i].els : Nat) : Int) = m + (l[i].count : Int) := by rw [Stm.count_is]; omega
      rw [e3]
      generalize declP l[i].body (m + 1) = D1 at *
      generalize declP l[i].els (m + 1 + (Stm.counts l[i].body : Int)) = D2 at *
      have hst := decl_step hi (by omega) m last acc D1 D2 hn (by rw [Stm.count_is]; omega) (by rw [Stm.count_is]; omega) v1 v2 h1 h2
      have h3 := ihi (m + (l[i].count : Int)) (acc ++ ((if l[i].kind = 1 then [varOf l[i] m last] else []) ++ (D1 ++ D2))) (by omega) (by rw [Stm.count_is]; omega) (by simp only [List.length_append]; split <;> simp <;> omega) last
      refine (hst.trans h3).trans ?_
      by_cases k1 : l[i].kind = 1 <;> simp [k1]
  have h0 := key 0 (Nat.zero_le _) m [] g0 (by simpa using g1) (by simpa using hc) (m + (Stm.counts l : Int) - 1)
  rw [check_declared.eq, check_count_is l hc]
  simp (disch := omega) [wrap_in]
  simpa [declP] using h0
end Go.Proofs.Ytkelkkjkbpdldaa
