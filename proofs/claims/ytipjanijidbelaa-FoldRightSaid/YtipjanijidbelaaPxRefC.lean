/- Checking procedures and programs: the reference's. Own work. -/
import Derived.Test.YtipjanijidbelaaPxRefS
import Derived.Test.YtipjanijidbelaaPxRow
namespace Go.Proofs.Ytipjanijidbelaa
open Go Go.Proofs.Ab Go.Proofs.Px
set_option linter.unusedVariables false
set_option linter.unusedSimpArgs false
set_option maxRecDepth 100000

theorem ref04_Returns_is : ∀ l : List Stm, l.length ≤ 140737488351232 → (∀ s ∈ l, StmOk s) → den Sp ref04_Returns.id [.sl .no T_api_Stmt (l.map Stm.v)] [] none = some ⟨.ret (.bool (Stm.endss l)), [], none⟩ := by
  refine Stm.ind_list fun l ih hl hok => ?_
  have key : ∀ i : Nat, i ≤ l.length → ref04_Returns.L1_0_1_0 (l.map Stm.v) (i : Int) = some ⟨.ret (.bool (Stm.endss (l.drop i))), [], none⟩ := by
    refine down ?_ fun i hi ihi => ?_
    · rw [ref04_Returns.L1_0_1_0_eq]; simp [Stm.endss]
    · have hm := List.getElem_mem hi
      have ho := (hok _ hm).inv'
      have h1 := (ih _ hm).1 ho.hb ho.hbs
      have h2 := (ih _ hm).2 ho.hl ho.hls
      simp only [Int.natCast_add, Int.natCast_one] at ihi
      rw [ref04_Returns.L1_0_1_0_eq, List.drop_eq_getElem_cons hi, Stm.endss, Stm.ends_is]
      by_cases k7 : l[i].kind = 7
      · simp (disch := omega) [hi, k7]
      · by_cases k4 : l[i].kind = 4
        · cases hb : Stm.endss l[i].body <;> cases hl : Stm.endss l[i].els <;> rw [hb] at h1 <;> rw [hl] at h2 <;> simp (disch := omega) [hi, k4, h1, h2, wrap_in, ihi]
        · simp (disch := omega) [hi, k7, k4, wrap_in, ihi]
  rw [ref04_Returns.eq]
  simpa using key 0 (Nat.zero_le _)
@[simp] theorem itemV_0 (p : Stm × Int) : (itemV p).getD 0 .undef = .int .i64 p.1.kind := rfl
@[simp] theorem itemV_1 (p : Stm × Int) : (itemV p).getD 1 .undef = .str (B p.1.name) := rfl
@[simp] theorem itemV_2 (p : Stm × Int) : (itemV p).getD 2 .undef = .str (B p.1.proc) := rfl
@[simp] theorem itemV_3 (p : Stm × Int) : (itemV p).getD 3 .undef = .int .i64 p.1.num := rfl
@[simp] theorem itemV_4 (p : Stm × Int) : (itemV p).getD 4 .undef = .sl .no T_api_Expr (p.1.e.map Ex.v) := rfl
@[simp] theorem itemV_5 (p : Stm × Int) : (itemV p).getD 5 .undef = .sl .no T_api_Stmt (p.1.body.map Stm.v) := rfl
@[simp] theorem itemV_6 (p : Stm × Int) : (itemV p).getD 6 .undef = .sl .no T_api_Stmt (p.1.els.map Stm.v) := rfl
@[simp] theorem itemV_7 (p : Stm × Int) : (itemV p).getD 7 .undef = .int .i64 p.2 := rfl
@[simp] theorem itemV_q0 (p : Stm × Int) : (itemV p)[0]?.getD .undef = .int .i64 p.1.kind := rfl
@[simp] theorem itemV_q1 (p : Stm × Int) : (itemV p)[1]?.getD .undef = .str (B p.1.name) := rfl
@[simp] theorem itemV_q2 (p : Stm × Int) : (itemV p)[2]?.getD .undef = .str (B p.1.proc) := rfl
@[simp] theorem itemV_q3 (p : Stm × Int) : (itemV p)[3]?.getD .undef = .int .i64 p.1.num := rfl
@[simp] theorem itemV_q4 (p : Stm × Int) : (itemV p)[4]?.getD .undef = .sl .no T_api_Expr (p.1.e.map Ex.v) := rfl
@[simp] theorem itemV_q5 (p : Stm × Int) : (itemV p)[5]?.getD .undef = .sl .no T_api_Stmt (p.1.body.map Stm.v) := rfl
@[simp] theorem itemV_q6 (p : Stm × Int) : (itemV p)[6]?.getD .undef = .sl .no T_api_Stmt (p.1.els.map Stm.v) := rfl
@[simp] theorem itemV_q7 (p : Stm × Int) : (itemV p)[7]?.getD .undef = .int .i64 p.2 := rfl
theorem ref04_Vars_is (q : Prc) (hp : q.params.length ≤ 1000000) (hc : Stm.counts q.body ≤ 1000000) : den Sp ref04_Vars.id [.agg q.v] [] none = some ⟨.ret (.sl .no T_api_Var ((varsP q).map Vr.v)), [], none⟩ := by
  obtain ⟨nm, ps, t, l⟩ := q
  simp only at hp hc
  have row := ref04_Row_is l hc 1 (by omega) (by omega)
  unfold varsP declP
  simp only
  have hlen := Stm.items_len l 1 (1 + (Stm.counts l : Int) - 1)
  generalize Stm.items l 1 (1 + (Stm.counts l : Int) - 1) = its at row hlen ⊢
  have second : ∀ (i2 : Int) (i : Nat), i ≤ its.length → ∀ acc : List Vr, acc.length + (its.length - i) ≤ 2000000 → ref04_Vars.L1_1_1_1_0_1_0 (its.map itemV) (acc.map Vr.v) i2 (i : Int) (B nm) (ps.map Par.v) t (l.map Stm.v) =
      some ⟨.ret (.sl .no T_api_Var ((acc ++ varsOf (its.drop i) ((i : Int) + 1)).map Vr.v)), [], none⟩ := by
    intro i2
    refine down (fun acc ha => ?_) fun i hi ih acc ha => ?_
    · rw [ref04_Vars.L1_1_1_1_0_1_0_eq]; simp [varsOf]
    · rw [ref04_Vars.L1_1_1_1_0_1_0_eq, List.drop_eq_getElem_cons hi]
      generalize hit : its[i] = it
      obtain ⟨s, last⟩ := it
      rw [varsOf]
      simp only [Int.natCast_add, Int.natCast_one] at ih
      by_cases k1 : s.kind = 1
      · have h3 := ih (acc ++ [varOf s ((i : Int) + 1) last]) (by simp; omega)
        rw [if_pos k1]
        unfold varOf at h3 ⊢
        by_cases k2 : s.num = -1
        · simp (disch := omega) [hi, hit, k1, k2, wrap_in, most_if]
          simp [k2, Vr.v, Int.add_assoc] at h3 ⊢
          exact h3
        · by_cases k3 : 64 < s.num
          · have e65 : (if 65 < s.num then 65 else s.num) = 65 := by split <;> omega
            simp only [if_neg k2, e65] at h3 ⊢
            simp (disch := omega) [hi, hit, k1, k2, k3, wrap_in, most_if]
            simp [Vr.v, Int.add_assoc] at h3 ⊢
            exact h3
          · have e65 : (if 65 < s.num then 65 else s.num) = s.num := by split <;> omega
            simp only [if_neg k2, e65] at h3 ⊢
            simp (disch := omega) [hi, hit, k1, k2, k3, wrap_in, most_if]
            simp [Vr.v, Int.add_assoc] at h3 ⊢
            exact h3
      · have h3 := ih acc (by omega)
        rw [if_neg k1]
        simp (disch := omega) [hi, hit, k1, wrap_in]
        simp [Int.add_assoc] at h3 ⊢
        exact h3
  have first : ∀ i : Nat, i ≤ ps.length → ∀ acc : List Vr, acc.length + (ps.length - i) ≤ 1000000 → ref04_Vars.L1_1_1_0_1_0 (its.map itemV) (acc.map Vr.v) (i : Int) (B nm) (ps.map Par.v) t (l.map Stm.v) =
      some ⟨.ret (.sl .no T_api_Var ((acc ++ (parVars ((Stm.counts l : Int) + 1) (ps.drop i) ++ varsOf its 1)).map Vr.v)), [], none⟩ := by
    refine down (fun acc ha => ?_) fun i hi ih acc ha => ?_
    · have h2 := second (ps.length : Int) 0 (Nat.zero_le _) acc (by omega)
      rw [ref04_Vars.L1_1_1_0_1_0_eq]
      simpa [parVars] using h2
    · have h3 := ih (acc ++ [⟨ps[i].name, ps[i].type, 0, 0, (Stm.counts l : Int) + 1⟩]) (by simp; omega)
      rw [ref04_Vars.L1_1_1_0_1_0_eq, List.drop_eq_getElem_cons hi, parVars]
      simp (disch := omega) [hi, hlen, wrap_in, most_if]
      simp [Vr.v] at h3 ⊢
      exact h3
  rw [Prc.v_mk, ref04_Vars.eq, row]
  have h0 := first 0 (Nat.zero_le _) [] (by simpa using hp)
  simpa using h0
/-- What is in scope at a mark was declared ahead of it: if all was well there, no size is below 0. -/
theorem varsOf_mem : ∀ (its : List (Stm × Int)) (m : Int) (v : Vr), v ∈ varsOf its m → ∃ (j : Nat) (h : j < its.length), its[j].1.kind = 1 ∧ v = varOf its[j].1 (m + (j : Int)) its[j].2
  | [], m, v, h => by cases h
  | (s, last) :: l, m, v, h => by
    unfold varsOf at h
    by_cases k : s.kind = 1
    · rw [if_pos k] at h
      rcases List.mem_cons.1 h with rfl | h
      · exact ⟨0, by simp, k, by simp⟩
      · obtain ⟨j, hj, h1, h2⟩ := varsOf_mem l (m + 1) v h
        refine ⟨j + 1, by simpa using hj, h1, ?_⟩
        rw [h2]; simp only [List.getElem_cons_succ]
        congr 1; omega
    · rw [if_neg k] at h
      obtain ⟨j, hj, h1, h2⟩ := varsOf_mem l (m + 1) v h
      refine ⟨j + 1, by simpa using hj, h1, ?_⟩
      rw [h2]; simp only [List.getElem_cons_succ]
      congr 1; omega
theorem findV_mem {name : List UInt8} {mark : Int} {v : Vr} : ∀ {l : List Vr}, findV name mark l = some v → v ∈ l ∧ v.frm ≤ mark
  | a :: l, h => by
    unfold findV at h
    split at h
    · rename_i c
      cases h
      refine ⟨List.mem_cons_self .., ?_⟩
      unfold scopeP at c
      simp only [Bool.and_eq_true, decide_eq_true_eq] at c
      exact c.1.2
    · exact ⟨List.mem_cons_of_mem _ (findV_mem h).1, (findV_mem h).2⟩
theorem parVars_mem (c : Int) : ∀ (l : List Par) (v : Vr), v ∈ parVars c l → v.size = 0
  | x :: l, v, h => by
    unfold parVars at h
    rcases List.mem_cons.1 h with rfl | h
    · rfl
    · exact parVars_mem c l v h
theorem size_ok (q : Prc) (i : Nat) (hi : ∀ (j : Nat) (h : j < (Stm.flats q.body).length), j < i → (Stm.flats q.body)[j].kind = 1 → -1 ≤ (Stm.flats q.body)[j].num) (name : List UInt8) (v : Vr) (h : findV name ((i : Int) + 1) (varsP q) = some v) : 0 ≤ v.size := by
  obtain ⟨h1, h2⟩ := findV_mem h
  unfold varsP declP at h1
  rcases List.mem_append.1 h1 with h1 | h1
  · rw [parVars_mem _ _ _ h1]; omega
  · obtain ⟨j, hj, k1, rfl⟩ := varsOf_mem _ _ _ h1
    have hf := Stm.items_fst q.body 1 (1 + (Stm.counts q.body : Int) - 1)
    have hj' : j < (Stm.flats q.body).length := by rw [← hf, List.length_map]; exact hj
    have e : (Stm.flats q.body)[j] = (Stm.items q.body 1 (1 + (Stm.counts q.body : Int) - 1))[j].1 := by
      have : (Stm.flats q.body)[j]? = some (Stm.items q.body 1 (1 + (Stm.counts q.body : Int) - 1))[j].1 := by rw [← hf, List.getElem?_map, List.getElem?_eq_getElem hj]; rfl
      rw [List.getElem?_eq_getElem hj'] at this
      exact Option.some.inj this
    have hlt : j < i := by
      unfold varOf at h2; simp only at h2; omega
    have hn := hi j hj' hlt (by rw [e]; exact k1)
    rw [e] at hn
    unfold varOf
    simp only
    split
    · omega
    · split <;> omega
theorem stmtE_num {vs : List Vr} {mark : Int} {ps : List Prc} {q : Prc} {s : Stm} (h : stmtE vs mark ps q s = 0) (hk : s.kind = 1) : -1 ≤ s.num := by
  obtain ⟨k, n, p, m, e, b, l⟩ := s
  rw [stmtE_mk] at h
  simp only [Stm.kind_mk] at hk
  subst hk
  unfold stmtK at h
  by_cases c1 : b ≠ [] ∧ (1 : Int) ≠ 4 ∧ (1 : Int) ≠ 5
  · rw [if_pos c1] at h; simp at h
  rw [if_neg c1] at h
  by_cases c2 : l ≠ [] ∧ (1 : Int) ≠ 4
  · rw [if_pos c2] at h; simp at h
  rw [if_neg c2, if_pos rfl] at h
  split at h
  · simp at h
  · split at h
    · simp at h
    · simp only [Stm.num_mk]; omega
end Go.Proofs.Ytipjanijidbelaa
