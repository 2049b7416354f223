/- Checking programs: the program's. Own work. -/
import Derived.Test.YtkelkkjkbpdldaaPxChkP
namespace Go.Proofs.Ytkelkkjkbpdldaa
open Go Go.Proofs.Ab Go.Proofs.Px
set_option linter.unusedVariables false
set_option linter.unusedSimpArgs false
set_option maxRecDepth 100000

/-- Names that were met, as a map. -/
def seenM (l : List (List UInt8)) : List (V × V) := l.map fun n => (.str (B n), .bool true)
theorem seen_get (s : List UInt8) : ∀ l : List (List UInt8), mpGet (.str (B s)) (.bool false) (seenM l) = .bool (decide (s ∈ l))
  | [] => by simp [seenM, mpGet]
  | a :: l => by
    have h := seen_get s l
    simp only [seenM, List.map_cons, mpGet, V.same] at h ⊢
    by_cases c : s = a
    · simp [c]
    · have c' : ¬ a = s := fun h => c h.symm
      simp [c, h]
theorem seen_set (s : List UInt8) : ∀ l : List (List UInt8), s ∉ l → mpSet (.str (B s)) (.bool true) (seenM l) = seenM (l ++ [s])
  | [], _ => by simp [seenM, mpSet]
  | a :: l, hn => by
    have hc : ¬ s = a := fun h => hn (h ▸ List.mem_cons_self ..)
    have h := seen_set s l fun h => hn (List.mem_cons_of_mem _ h)
    simp only [seenM, List.map_cons, mpSet, V.same, List.cons_append] at h ⊢
    simp [hc, h]
/-- Is a name met twice? -/
def dupP : List (List UInt8) → List (List UInt8) → Bool
  | [], _ => false
  | n :: l, seen => decide (n ∈ seen) || dupP l (seen ++ [n])
theorem dup_iff : ∀ (l seen : List (List UInt8)), dupP l seen = false ↔ l.Nodup ∧ ∀ n ∈ l, n ∉ seen
  | [], seen => by simp [dupP]
  | a :: l, seen => by
    have h := dup_iff l (seen ++ [a])
    simp only [dupP, Bool.or_eq_false_iff, decide_eq_false_iff_not, h, List.nodup_cons, List.mem_append, List.mem_singleton, not_or, List.forall_mem_cons]
    constructor
    · rintro ⟨h1, h2, h3⟩
      exact ⟨⟨fun h4 => (h3 a h4).2 rfl, h2⟩, h1, fun n hn => (h3 n hn).1⟩
    · rintro ⟨⟨h1, h2⟩, h3, h4⟩
      exact ⟨h3, h2, fun n hn => ⟨h4 n hn, fun h5 => h1 (h5 ▸ hn)⟩⟩
/-- A procedure's parameters as variables. -/
def parVars (c : Int) : List Par → List Vr
  | [] => []
  | x :: l => ⟨x.name, x.type, 0, 0, c⟩ :: parVars c l
theorem parVars_len (c : Int) : ∀ l : List Par, (parVars c l).length = l.length
  | [] => rfl
  | x :: l => by rw [parVars, List.length_cons, List.length_cons, parVars_len c l]
def varsP (q : Prc) : List Vr := parVars ((Stm.counts q.body : Int) + 1) q.params ++ declP q.body 1
theorem declP_len (l : List Stm) (m : Int) : (declP l m).length ≤ Stm.counts l := by
  have := varsOf_len (Stm.items l m (m + (Stm.counts l : Int) - 1)) m
  rw [Stm.items_len] at this
  exact this
theorem check_vars_is (q : Prc) (hp : q.params.length ≤ 1000000) (hc : Stm.counts q.body ≤ 1000000) : den Sp check_vars.id [.agg q.v] [] none = some ⟨.ret (.sl .no T_api_Var ((varsP q).map Vr.v)), [], none⟩ := by
  obtain ⟨nm, ps, t, l⟩ := q
  simp only at hp hc
  have c1 := check_count_is l hc
  have c2 := check_declared_is l hc 1 (by omega) (by omega)
  have c3 := declP_len l 1
  have key : ∀ i : Nat, i ≤ ps.length → ∀ acc : List Vr, acc.length + (ps.length - i) ≤ 1000000 → check_vars.L1_1_0_1_0 (acc.map Vr.v) (ps.map Par.v) (ps.length : Int) (i : Int) (B nm) (ps.map Par.v) t (l.map Stm.v) =
      some ⟨.ret (.sl .no T_api_Var ((acc ++ (parVars ((Stm.counts l : Int) + 1) (ps.drop i) ++ declP l 1)).map Vr.v)), [], none⟩ := by
    refine down (fun acc ha => ?_) fun i hi ih acc ha => ?_
    · rw [check_vars.L1_1_0_1_0_eq]; simp (disch := omega) [c2, most_if, parVars]
    · have h3 := ih (acc ++ [⟨ps[i].name, ps[i].type, 0, 0, (Stm.counts l : Int) + 1⟩]) (by simp; omega)
      rw [check_vars.L1_1_0_1_0_eq, List.drop_eq_getElem_cons hi, parVars]
      simp (disch := omega) [hi, c1, wrap_in, most_if]
      simp [Vr.v] at h3 ⊢
      exact h3
  rw [Prc.v_mk, check_vars.eq]
  simpa [varsP] using key 0 (Nat.zero_le _) [] (by simpa using hp)
mutual
/-- Does each way return? -/
def Stm.ends : Stm → Bool
  | .mk k _ _ _ _ b l => decide (k = 7) || (decide (k = 4) && Stm.endss b && Stm.endss l)
def Stm.endss : List Stm → Bool
  | [] => false
  | x :: l => Stm.ends x || Stm.endss l
end
theorem Stm.ends_is (x : Stm) : x.ends = (decide (x.kind = 7) || (decide (x.kind = 4) && Stm.endss x.body && Stm.endss x.els)) := by cases x; rw [Stm.ends]; rfl
theorem check_ends_is : ∀ l : List Stm, l.length ≤ 140737488351232 → (∀ s ∈ l, StmOk s) → den Sp check_ends.id [.sl .no T_api_Stmt (l.map Stm.v)] [] none = some ⟨.ret (.bool (Stm.endss l)), [], none⟩ := by
  refine Stm.ind_list fun l ih hl hok => ?_
  have key : ∀ i : Nat, i ≤ l.length → check_ends.L1_0_1_0 (l.map Stm.v) (l.length : Int) (i : Int) = some ⟨.ret (.bool (Stm.endss (l.drop i))), [], none⟩ := by
    refine down ?_ fun i hi ihi => ?_
    · rw [check_ends.L1_0_1_0_eq]; simp [Stm.endss]
    · have hm := List.getElem_mem hi
      have ho := (hok _ hm).inv'
      have h1 := (ih _ hm).1 ho.hb ho.hbs
      have h2 := (ih _ hm).2 ho.hl ho.hls
      simp only [Int.natCast_add, Int.natCast_one] at ihi
      rw [check_ends.L1_0_1_0_eq, List.drop_eq_getElem_cons hi, Stm.endss, Stm.ends_is]
      by_cases k7 : l[i].kind = 7
      · simp (disch := omega) [hi, k7]
      · by_cases k4 : l[i].kind = 4
        · cases hb : Stm.endss l[i].body <;> cases hl : Stm.endss l[i].els <;> rw [hb] at h1 <;> rw [hl] at h2 <;> simp (disch := omega) [hi, k4, h1, h2, wrap_in, ihi]
        · simp (disch := omega) [hi, k7, k4, wrap_in, ihi]
  rw [check_ends.eq]
  simpa using key 0 (Nat.zero_le _)
def mainP (p : Prc) : Bool := decide (p.name = [109, 97, 105, 110]) && decide (p.params.length = 0) && decide (p.type = 0)
def wholeE (ps : List Prc) : Int := if 40 < ps.length then 2 else if dupP (ps.map (·.name)) [] then 40 else if ps.any mainP then 0 else 42
theorem check_whole_is (ps : List Prc) (hps : ps.length ≤ 140737488351232) : den Sp check_whole.id [.agg [.sl .no T_api_Proc (ps.map Prc.v)]] [] none = some ⟨.ret (.int .i64 (wholeE ps)), [], none⟩ := by
  have second : ∀ (i2 : Int) (m : List (V × V)) (i : Nat), i ≤ ps.length → check_whole.L1_1_1_1_0_1_0 (ps.map Prc.v) (ps.length : Int) i2 (ps.map Prc.v) (ps.length : Int) (i : Int) (ps.map Prc.v) m = some ⟨.ret (.int .i64 (if (ps.drop i).any mainP then 0 else 42)), [], none⟩ := by
    intro i2 m
    refine down ?_ fun i hi ih => ?_
    · rw [check_whole.L1_1_1_1_0_1_0_eq]; simp
    · simp only [Int.natCast_add, Int.natCast_one] at ih
      rw [check_whole.L1_1_1_1_0_1_0_eq, List.drop_eq_getElem_cons hi, List.any_cons]
      unfold mainP at ih ⊢
      by_cases c1 : ps[i].name = [109, 97, 105, 110] <;> by_cases c2 : ps[i].params = [] <;> by_cases c3 : ps[i].type = 0 <;> simp (disch := omega) [hi, c1, c2, c3, wrap_in, ih]
  have first : ∀ i : Nat, i ≤ ps.length → ∀ seen : List (List UInt8), check_whole.L1_1_1_0_1_0 (ps.map Prc.v) (ps.length : Int) (i : Int) (ps.map Prc.v) (seenM seen) = some ⟨.ret (.int .i64 (if dupP ((ps.drop i).map (·.name)) seen then 40 else if ps.any mainP then 0 else 42)), [], none⟩ := by
    refine down (fun seen => ?_) fun i hi ih seen => ?_
    · have := second (ps.length : Int) (seenM seen) 0 (Nat.zero_le _)
      rw [check_whole.L1_1_1_0_1_0_eq]; simpa [dupP] using this
    · simp only [Int.natCast_add, Int.natCast_one] at ih
      rw [check_whole.L1_1_1_0_1_0_eq, List.drop_eq_getElem_cons hi, List.map_cons, dupP]
      by_cases c : ps[i].name ∈ seen
      · simp (disch := omega) [hi, seen_get, c]
      · simp (disch := omega) [hi, seen_get, c, seen_set _ _ c, wrap_in, ih]
  rw [check_whole.eq]
  unfold wholeE
  by_cases c : 40 < ps.length
  · simp [c, show (40 : Int) < (ps.length : Int) by omega]
  · have := first 0 (Nat.zero_le _) []
    rw [show seenM [] = [] from rfl] at this
    simpa [c, show ¬ (40 : Int) < (ps.length : Int) by omega] using this
/-- A procedure's first error: its mark, and it. -/
def procE (ps : List Prc) (q : Prc) : Int × Int :=
  if 8 < q.params.length ∨ 60 < (varsP q).length then (0, 2)
  else if dupP ((varsP q).map (·.name)) [] then (0, 40)
  else if (runE (fun m s => stmtE (varsP q) m ps q s) 0 (Stm.flats q.body)).2 ≠ 0 then runE (fun m s => stmtE (varsP q) m ps q s) 0 (Stm.flats q.body)
  else if q.type = 0 ∨ Stm.endss q.body = true then (0, 0) else ((runE (fun m s => stmtE (varsP q) m ps q s) 0 (Stm.flats q.body)).1 + 1, 43)
theorem caught_is (m e : Int) : den Sp check_checker_check_1.id [.ref 0 0, .ref 1 0] [.cells T_int [.int .i64 0] false, .cells T_api_Errno [.int .i64 0] false] (some (some (givenV m e))) = some ⟨.ret (.tup []), [.cells T_int [.int .i64 m] false, .cells T_api_Errno [.int .i64 e] false], some none⟩ := by
  unfold givenV
  rw [check_checker_check_1.eq1, check_caught.eq]; simp
theorem check_is (ps : List Prc) (hps : ps.length ≤ 140737488351232) (q : Prc) (hq : PrcOk q) (hp : q.params.length ≤ 1000000) (hc : Stm.counts q.body ≤ 1000000) :
    ∃ m, den Sp check_checker_check.id [.ref 0 0] [chkB [] 0 ps q] none = some ⟨.ret (.tup [.int .i64 (procE ps q).1, .int .i64 (procE ps q).2]), [chkB (varsP q) m ps q], none⟩ := by
  have n1 := need_true (varsP q)
  have n2 := need_false (varsP q)
  have v1 := check_vars_is q hp hc
  have vl : (varsP q).length ≤ 3000000 := by
    have := declP_len q.body 1
    unfold varsP
    rw [List.length_append, parVars_len]; omega
  have st := stmts_is (varsP q) (by omega) ps hps q q.body hq.body.2 0 (by omega) (by omega)
  have en := check_ends_is q.body hq.body.1 hq.body.2
  have c0 := fun a b => check_checker_check_1.eq0 a b
  have c1 := caught_is
  have rm := runE_mark (fun m s => stmtE (varsP q) m ps q s) (Stm.flats q.body) 0
  rw [Stm.flats_len] at rm
  unfold procE
  generalize hr : runE (fun m s => stmtE (varsP q) m ps q s) 0 (Stm.flats q.body) = r at st rm ⊢
  unfold givenV at c1
  have key : ∀ i : Nat, i ≤ (varsP q).length → ∀ seen : List (List UInt8), ∃ m, check_checker_check.L1_1_1_1_1_0_1_0 ((varsP q).map Vr.v) ((varsP q).length : Int) (i : Int) ((varsP q).map Vr.v) 0 (ps.map Prc.v) (B q.name) (q.params.map Par.v) q.type (q.body.map Stm.v) (seenM seen) =
      some ⟨.ret (.tup (if dupP (((varsP q).drop i).map (·.name)) seen then [.int .i64 0, .int .i64 40] else if r.2 ≠ 0 then [.int .i64 r.1, .int .i64 r.2] else if q.type = 0 ∨ Stm.endss q.body = true then [.int .i64 0, .int .i64 0] else [.int .i64 (r.1 + 1), .int .i64 43])), [chkB (varsP q) m ps q], none⟩ := by
    refine down (fun seen => ?_) fun i hi ih seen => ?_
    · rw [check_checker_check.L1_1_1_1_1_0_1_0_eq]
      unfold runB chkB namesB at *
      obtain ⟨m2, x2⟩ := r
      by_cases e2 : x2 = 0
      · subst e2
        have rm := rm.2.2 rfl
        simp only at rm
        simp only [if_pos] at st
        have hw : IntKind.wrap IntKind.i64 (m2 + 1) = m2 + 1 := wrap_in (by omega) (by omega)
        by_cases t0 : q.type = 0
        · refine ⟨m2 + 1, ?_⟩
          rw [t0] at st ⊢
          simp [dupP, st, n1, c0, hw]
        · refine ⟨m2 + 1, ?_⟩
          cases he : Stm.endss q.body with
          | true =>
            rw [he] at en
            simp [dupP, st, t0, n1, c0, en, hw]
          | false =>
            rw [he] at en
            simp [dupP, st, t0, n2, c0, en, givenV, c1, hw]
      · refine ⟨m2, ?_⟩
        simp [dupP, st, e2, givenV, c1]
    · rw [List.drop_eq_getElem_cons hi, List.map_cons, dupP]
      simp only [Int.natCast_add, Int.natCast_one] at ih
      by_cases c : (varsP q)[i].name ∈ seen
      · refine ⟨0, ?_⟩
        rw [check_checker_check.L1_1_1_1_1_0_1_0_eq]
        unfold chkB namesB at *
        simp [hi, seen_get, c, n2, givenV, c1]
      · obtain ⟨m, hm⟩ := ih (seen ++ [(varsP q)[i].name])
        refine ⟨m, ?_⟩
        rw [check_checker_check.L1_1_1_1_1_0_1_0_eq]
        unfold chkB namesB at *
        simp (disch := omega) [hi, seen_get, c, seen_set _ _ c, wrap_in, n1]
        simp [c, hm]
  rw [Prc.v] at v1
  by_cases d1 : 8 < q.params.length
  · refine ⟨0, ?_⟩
    unfold chkB namesB at *
    rw [List.map_nil, check_checker_check.eq, v1]
    simp [d1, show ¬ (q.params.length : Int) ≤ 8 by omega, n2, givenV, c1]
  · by_cases d2 : 60 < (varsP q).length
    · refine ⟨0, ?_⟩
      unfold chkB namesB at *
      rw [List.map_nil, check_checker_check.eq, v1]
      simp [d1, d2, show (q.params.length : Int) ≤ 8 by omega, show ¬ ((varsP q).length : Int) ≤ 60 by omega, n2, givenV, c1]
    · obtain ⟨m, hm⟩ := key 0 (Nat.zero_le _) []
      refine ⟨m, ?_⟩
      rw [List.drop_zero, show seenM [] = [] from rfl] at hm
      unfold chkB namesB at *
      rw [List.map_nil, check_checker_check.eq, v1]
      simp only [Int.natCast_zero] at hm
      simp [d1, d2, show (q.params.length : Int) ≤ 8 by omega, show ((varsP q).length : Int) ≤ 60 by omega, n1, hm]
      by_cases g1 : dupP ((varsP q).map (·.name)) [] = true
      · simp [g1]
      · simp only [if_neg g1]
        by_cases g2 : r.2 = 0
        · by_cases g3 : q.type = 0 ∨ Stm.endss q.body = true <;> simp [g2, g3]
        · simp [g2]
end Go.Proofs.Ytkelkkjkbpdldaa
