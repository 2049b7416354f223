/- Checking a program: the program's whole answer. Own work. -/
import Derived.Test.YtkelkkjkbpdldaaPxChkW
namespace Go.Proofs.Ytkelkkjkbpdldaa
open Go Go.Proofs.Ab Go.Proofs.Px
set_option linter.unusedVariables false
set_option linter.unusedSimpArgs false
set_option maxRecDepth 100000

/-- The first error of some procedures: which, where, what. -/
def procsE (all : List Prc) : List Prc → Int → Option (Int × Int × Int)
  | [], _ => none
  | q :: l, i => if (procE all q).2 ≠ 0 then some (i, procE all q) else procsE all l (i + 1)
/-- Rows of variables, as cells. -/
def vrows (l : List (List Vr)) : List (List V) := l.map fun r => [.sl .no T_api_Var (r.map Vr.v)]
@[simp] theorem vrows_len (l : List (List Vr)) : (vrows l).length = l.length := by simp [vrows]
def infoV (vs : List (List Vr)) (ms : List Int) : V := .agg [.sl .no T_L_api_Var (vrows vs), .sl .no T_int (iv ms)]
/-- What checking answers: an error and its place, or what is known. -/
def checkP (ps : List Prc) : Int × Int × Int := if wholeE ps ≠ 0 then (0, 0, wholeE ps) else (procsE ps ps 0).getD (0, 0, 0)
def checkR (ps : List Prc) : Option Res := some ⟨.ret (.tup [if (checkP ps).2.2 = 0 then infoV (ps.map varsP) (ps.map fun q => (Stm.counts q.body : Int)) else infoV [] [], .agg [.int .i64 (checkP ps).1, .int .i64 (checkP ps).2.1], .int .i64 (checkP ps).2.2]), [], none⟩
theorem procsE_ne {all : List Prc} : ∀ {l : List Prc} {i : Int} {r : Int × Int × Int}, procsE all l i = some r → r.2.2 ≠ 0
  | q :: l, i, r, h => by
    unfold procsE at h
    split at h
    · rename_i c; cases h; exact c
    · exact procsE_ne h
theorem check_Check_is (ps : List Prc) (hok : ∀ q ∈ ps, PrcOk q) (hs : Prc.sizes ps ≤ 1000000) : den Sp check_Check.id [.agg [.sl .no T_api_Proc (ps.map Prc.v)]] [] none = checkR ps := by
  have hlen := Prc.sizes_len ps
  have hw := check_whole_is ps (by omega)
  unfold checkR checkP
  rw [check_Check.eq, hw]
  by_cases hw0 : wholeE ps = 0
  · have hq : ∀ q ∈ ps, q.params.length ≤ 1000000 ∧ Stm.counts q.body ≤ 1000000 := fun q h => by
      have h1 := Prc.size_mem h
      have h2 := Stm.counts_sizes q.body
      unfold Prc.size at h1
      omega
    have key : ∀ i : Nat, i ≤ ps.length → ∀ (vs : List (List Vr)) (ms : List Int), vs.length + (ps.length - i) ≤ 1000000 → ms.length + (ps.length - i) ≤ 1000000 → check_Check.L1_1_1_0_1_0 (ps.map Prc.v) (ps.length : Int) (i : Int) (ps.map Prc.v) (vrows vs) (iv ms) =
        match procsE ps (ps.drop i) (i : Int) with
        | some r => some ⟨.ret (.tup [infoV [] [], .agg [.int .i64 r.1, .int .i64 r.2.1], .int .i64 r.2.2]), [], none⟩
        | none => some ⟨.ret (.tup [infoV (vs ++ (ps.drop i).map varsP) (ms ++ (ps.drop i).map fun q => (Stm.counts q.body : Int)), .agg [.int .i64 0, .int .i64 0], .int .i64 0]), [], none⟩ := by
      refine down (fun vs ms _ _ => ?_) fun i hi ih vs ms hv hm => ?_
      · rw [check_Check.L1_1_1_0_1_0_eq]; simp [procsE, infoV]
      · have hmem := List.getElem_mem hi
        obtain ⟨m, hc⟩ := check_is ps (by omega) ps[i] (hok _ hmem) (hq _ hmem).1 (hq _ hmem).2
        have c1 := check_count_is ps[i].body (hq _ hmem).2
        rw [check_Check.L1_1_1_0_1_0_eq, List.drop_eq_getElem_cons hi, procsE]
        unfold chkB at hc
        rw [List.map_nil] at hc
        by_cases e0 : (procE ps ps[i]).2 = 0
        · have h3 := ih (vs ++ [varsP ps[i]]) (ms ++ [(Stm.counts ps[i].body : Int)]) (by simp; omega) (by simp; omega)
          simp only [Int.natCast_add, Int.natCast_one] at h3
          have e1 : vrows (vs ++ [varsP ps[i]]) = vrows vs ++ [[.sl .no T_api_Var ((varsP ps[i]).map Vr.v)]] := by simp [vrows]
          have e2 : iv (ms ++ [(Stm.counts ps[i].body : Int)]) = iv ms ++ [[.int .i64 (Stm.counts ps[i].body : Int)]] := by simp [iv]
          rw [e1, e2] at h3
          simp (disch := first | omega | rfl | simp) [hi, hc, e0, c1, most_if, wrap_in, List.getElem?_cons_zero]
          rw [h3]
          cases procsE ps (List.drop (i + 1) ps) ((i : Int) + 1) 
          · simp only [List.map_cons, List.append_assoc, List.singleton_append]
            rw [← List.map_drop, ← List.map_drop, List.drop_eq_getElem_cons hi, List.map_cons, List.map_cons]
          · rfl
        · simp (disch := first | omega | rfl | simp) [hi, hc, e0, infoV, List.getElem?_cons_zero]
          rfl
    have h0 := key 0 (Nat.zero_le _) [] [] (by simp; omega) (by simp; omega)
    rw [show vrows [] = [] from rfl] at h0
    simp only [hw0, ne_eq, not_true_eq_false, if_false, List.drop_zero, Int.natCast_zero, List.nil_append] at h0 ⊢
    cases hp : procsE ps ps 0 with
    | none =>
      rw [hp] at h0
      simpa using h0
    | some r =>
      have hr := procsE_ne hp
      rw [hp] at h0
      simp only [Option.getD_some, if_neg hr]
      simpa using h0
  · simp [hw0, infoV]
    rfl
end Go.Proofs.Ytkelkkjkbpdldaa
