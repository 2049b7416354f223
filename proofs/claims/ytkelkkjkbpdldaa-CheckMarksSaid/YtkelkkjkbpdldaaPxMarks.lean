/- A procedure's statements in a row; counting, finding. Own work. -/
import Derived.Test.YtkelkkjkbpdldaaPxSizeP
import Derived.Test.YtkelkkjkbpdldaaRMarks
import Derived.Test.YtkelkkjkbpdldaaRSames
namespace Go.Proofs.Ytkelkkjkbpdldaa
open Go Go.Proofs.Ab Go.Proofs.Px
set_option linter.unusedVariables false
set_option linter.unusedSimpArgs false
set_option maxRecDepth 100000

theorem most_if {R : Type} {n : Nat} (h : n ≤ 1099511627776) (a b : Option R) : (if n ≤ most then a else b) = a := if_pos h
namespace Stm
mutual
/-- Statements in order of marks. -/
def flat : Stm → List Stm
  | .mk k n p m e b l => .mk k n p m e b l :: (flats b ++ flats l)
def flats : List Stm → List Stm
  | [] => []
  | x :: l => flat x ++ flats l
end
mutual
theorem flat_len : ∀ x : Stm, (flat x).length = x.count
  | .mk k n p m e b l => by rw [flat, count, List.length_cons, List.length_append, flats_len b, flats_len l]; omega
theorem flats_len : ∀ l : List Stm, (flats l).length = counts l
  | [] => rfl
  | x :: l => by rw [flats, counts, List.length_append, flat_len x, flats_len l]
end
theorem flat_is (x : Stm) : flat x = x :: (flats x.body ++ flats x.els) := by cases x; rw [flat]; rfl
theorem flats_drop {l : List Stm} {i : Nat} (h : i < l.length) : flats (l.drop i) = flat l[i] ++ flats (l.drop (i + 1)) := by
  rw [List.drop_eq_getElem_cons h, flats]
mutual
/-- The same, with each one's block's last mark. -/
def item : Stm → Int → Int → List (Stm × Int)
  | .mk k n p m e b l, next, last => (.mk k n p m e b l, last) :: (items b (next + 1) (next + 1 + (counts b : Int) - 1) ++ items l (next + 1 + (counts b : Int)) (next + 1 + (counts b : Int) + (counts l : Int) - 1))
def items : List Stm → Int → Int → List (Stm × Int)
  | [], _, _ => []
  | x :: l, next, last => item x next last ++ items l (next + (count x : Int)) last
end
theorem item_is (x : Stm) (next last : Int) : item x next last = (x, last) :: (items x.body (next + 1) (next + 1 + (counts x.body : Int) - 1) ++ items x.els (next + 1 + (counts x.body : Int)) (next + 1 + (counts x.body : Int) + (counts x.els : Int) - 1)) := by
  cases x; rw [item]; rfl
theorem items_drop {l : List Stm} {i : Nat} (h : i < l.length) (next last : Int) : items (l.drop i) next last = item l[i] next last ++ items (l.drop (i + 1)) (next + (count l[i] : Int)) last := by
  rw [List.drop_eq_getElem_cons h, items]
mutual
theorem item_fst : ∀ (x : Stm) (next last : Int), (item x next last).map (·.1) = flat x
  | .mk k n p m e b l, next, last => by rw [item, flat, List.map_cons, List.map_append, items_fst b, items_fst l]
theorem items_fst : ∀ (l : List Stm) (next last : Int), (items l next last).map (·.1) = flats l
  | [], _, _ => by rw [items, flats]; rfl
  | x :: l, next, last => by rw [items, flats, List.map_append, item_fst x, items_fst l]
end
theorem items_len (l : List Stm) (next last : Int) : (items l next last).length = counts l := by
  rw [← flats_len, ← items_fst l next last, List.length_map]
end Stm
theorem Stm.flats_ok {l : List Stm} : (∀ x ∈ l, StmOk x) → ∀ s ∈ Stm.flats l, StmOk s := by
  refine Stm.ind_list (P := fun l => (∀ x ∈ l, StmOk x) → ∀ s ∈ Stm.flats l, StmOk s) (fun l ih => ?_) l
  intro h s hs
  induction l with
  | nil => rw [Stm.flats] at hs; cases hs
  | cons x l ihl =>
    rw [Stm.flats, Stm.flat_is] at hs
    have hx := h x (List.mem_cons_self ..)
    rcases List.mem_append.1 hs with hs | hs
    · rcases List.mem_cons.1 hs with rfl | hs
      · exact hx
      · rcases List.mem_append.1 hs with hs | hs
        · exact (ih x (List.mem_cons_self ..)).1 hx.inv'.hbs s hs
        · exact (ih x (List.mem_cons_self ..)).2 hx.inv'.hls s hs
    · exact ihl (fun y hy => ih y (List.mem_cons_of_mem _ hy)) (fun y hy => h y (List.mem_cons_of_mem _ hy)) hs
/-- An item's cells. -/
def itemV (p : Stm × Int) : List V := [.int .i64 p.1.kind, .str (B p.1.name), .str (B p.1.proc), .int .i64 p.1.num, .sl .no T_api_Expr (p.1.e.map Ex.v), .sl .no T_api_Stmt (p.1.body.map Stm.v), .sl .no T_api_Stmt (p.1.els.map Stm.v), .int .i64 p.2]
theorem Stm.counts_len : ∀ l : List Stm, l.length ≤ Stm.counts l
  | [] => Nat.le_refl _
  | x :: l => by rw [Stm.counts]; have := Stm.count_pos x; have := Stm.counts_len l; simp only [List.length_cons]; omega
theorem check_count_is : ∀ l : List Stm, Stm.counts l ≤ 1000000 → den Sp check_count.id [.sl .no T_api_Stmt (l.map Stm.v)] [] none = some ⟨.ret (.int .i64 (Stm.counts l : Int)), [], none⟩ := by
  refine Stm.ind_list fun l ih hc => ?_
  have hlen := Stm.counts_len l
  have key : ∀ i : Nat, i ≤ l.length → ∀ n : Int, 0 ≤ n → n + (Stm.counts (l.drop i) : Int) ≤ 1000000 → check_count.L1_1_0_1_0 n (l.map Stm.v) (l.length : Int) (i : Int) = some ⟨.ret (.int .i64 (n + (Stm.counts (l.drop i) : Int))), [], none⟩ := by
    refine down (fun n hn h => ?_) fun i hi ihi n hn h => ?_
    · rw [check_count.L1_1_0_1_0_eq]; simp [Stm.counts]
    · rw [Stm.counts_drop hi, Stm.count_is] at h
      have hm := List.getElem_mem hi
      have h1 := (ih _ hm).1 (by omega)
      have h2 := (ih _ hm).2 (by omega)
      have h3 := ihi (n + (1 + (Stm.counts l[i].body : Int) + (Stm.counts l[i].els : Int))) (by omega) (by omega)
      rw [check_count.L1_1_0_1_0_eq]
      simp (disch := omega) [hi, h1, h2, wrap_in]
      rw [Stm.counts_drop hi, Stm.count_is]
      simp only [Int.natCast_add, Int.add_assoc] at h3 ⊢
      exact h3
  rw [check_count.eq]
  simpa using key 0 (Nat.zero_le _) 0 (by omega) (by simp; omega)
theorem ref04_total_is : ∀ l : List Stm, Stm.counts l ≤ 1000000 → den Sp ref04_total.id [.sl .no T_api_Stmt (l.map Stm.v)] [] none = some ⟨.ret (.int .i64 (Stm.counts l : Int)), [], none⟩ := by
  refine Stm.ind_list fun l ih hc => ?_
  have hlen := Stm.counts_len l
  have key : ∀ i : Nat, i ≤ l.length → ∀ n : Int, 0 ≤ n → n + (Stm.counts (l.drop i) : Int) ≤ 1000000 → ref04_total.L1_1_0_1_0 (l.map Stm.v) n (i : Int) = some ⟨.ret (.int .i64 (n + (Stm.counts (l.drop i) : Int))), [], none⟩ := by
    refine down (fun n hn h => ?_) fun i hi ihi n hn h => ?_
    · rw [ref04_total.L1_1_0_1_0_eq]; simp [Stm.counts]
    · rw [Stm.counts_drop hi, Stm.count_is] at h
      have hm := List.getElem_mem hi
      have h1 := (ih _ hm).1 (by omega)
      have h2 := (ih _ hm).2 (by omega)
      have h3 := ihi (n + (1 + (Stm.counts l[i].body : Int) + (Stm.counts l[i].els : Int))) (by omega) (by omega)
      rw [ref04_total.L1_1_0_1_0_eq]
      simp (disch := omega) [hi, h1, h2, wrap_in]
      rw [Stm.counts_drop hi, Stm.count_is]
      simp only [Int.natCast_add, Int.add_assoc] at h3 ⊢
      exact h3
  rw [ref04_total.eq]
  simpa using key 0 (Nat.zero_le _) 0 (by omega) (by simp; omega)
theorem ref04_Row_is : ∀ l : List Stm, Stm.counts l ≤ 1000000 → ∀ next : Int, 0 ≤ next → next + (Stm.counts l : Int) ≤ 3000000 → den Sp ref04_Row.id [.sl .no T_api_Stmt (l.map Stm.v), .int .i64 next] [] none =
    some ⟨.ret (.sl .no T_parallaxref04_Item ((Stm.items l next (next + (Stm.counts l : Int) - 1)).map itemV)), [], none⟩ := by
  refine Stm.ind_list fun l ih hc next g0 g1 => ?_
  have hlen := Stm.counts_len l
  have key : ∀ i : Nat, i ≤ l.length → ∀ (nx : Int) (acc : List (Stm × Int)), 0 ≤ nx → nx + (Stm.counts (l.drop i) : Int) ≤ 3000000 → acc.length + Stm.counts (l.drop i) ≤ 1000000 → ∀ last : Int,
      ref04_Row.L1_1_1_0_1_0 (l.map Stm.v) nx (acc.map itemV) last (i : Int) = some ⟨.ret (.sl .no T_parallaxref04_Item ((acc ++ Stm.items (l.drop i) nx last).map itemV)), [], none⟩ := by
    refine down (fun nx acc _ _ _ last => ?_) fun i hi ihi nx acc hn h hacc last => ?_
    · rw [ref04_Row.L1_1_1_0_1_0_eq]; simp [Stm.items]
    · rw [Stm.counts_drop hi, Stm.count_is] at h hacc
      have hm := List.getElem_mem hi
      have h1 := (ih _ hm).1 (by omega) (nx + 1) (by omega) (by omega)
      have h2 := (ih _ hm).2 (by omega) (nx + 1 + (Stm.counts l[i].body : Int)) (by omega) (by omega)
      have h3 := ihi (nx + (l[i].count : Int)) (acc ++ Stm.item l[i] nx last) (by omega) (by rw [Stm.count_is]; omega) (by rw [List.length_append, Stm.item_is, List.length_cons, List.length_append, Stm.items_len, Stm.items_len]; omega) last
      rw [ref04_Row.L1_1_1_0_1_0_eq]
      simp (disch := omega) [hi, h1, h2, wrap_in, most_if, Stm.items_len]
      rw [Stm.items_drop hi]
      rw [Stm.count_is, Stm.item_is] at h3 ⊢
      simp [itemV, Int.add_assoc] at h3 ⊢
      exact h3
  have h0 := key 0 (Nat.zero_le _) next [] g0 (by simpa using g1) (by simpa using hc) (next + (Stm.counts l : Int) - 1)
  rw [ref04_Row.eq, ref04_total_is l hc]
  simp (disch := omega) [wrap_in]
  simpa using h0
theorem ref04_Stmt_is (nm : List UInt8) (ps : List (List V)) (t : Int) (l : List Stm) (hc : Stm.counts l ≤ 999999) (mark : Int) :
    den Sp ref04_Stmt.id [.agg [.str (B nm), .sl .no T_api_Param ps, .int .i64 t, .sl .no T_api_Stmt (l.map Stm.v)], .int .i64 mark] [] none =
    some ⟨.ret (.tup (match (if mark < 1 then none else (Stm.flats l)[mark.toNat - 1]?) with | some s => [.agg s.v, .bool true] | none => [.agg (Stm.mk 0 [] [] 0 [] [] []).v, .bool false])), [], none⟩ := by
  rw [ref04_Stmt.eq, ref04_Row_is l (by omega) 1 (by omega) (by omega)]
  have hz : (Stm.mk 0 [] [] 0 [] [] []).v = [V.int IntKind.i64 0, V.str (B []), V.str (B []), V.int IntKind.i64 0, V.sl Tok.no T_api_Expr [], V.sl Tok.no T_api_Stmt [], V.sl Tok.no T_api_Stmt []] := by rw [Stm.v_mk]; rfl
  generalize hr : Stm.items l 1 (1 + (Stm.counts l : Int) - 1) = its
  have hf : its.map (·.1) = Stm.flats l := by rw [← hr, Stm.items_fst]
  have hn : its.length = Stm.counts l := by rw [← hr, Stm.items_len]
  rw [← hf]
  by_cases h1 : mark < 1
  · simp [h1, hz]
  · by_cases h2 : mark > (its.length : Int)
    · simp only [if_neg h1]
      rw [List.getElem?_eq_none (by rw [List.length_map]; omega)]
      simp [h1, h2, hz]
    · obtain ⟨i, rfl⟩ : ∃ i : Nat, mark = (i : Int) + 1 := ⟨mark.toNat - 1, by omega⟩
      have hi : i < its.length := by omega
      simp only [if_neg h1]
      have e1 : Int.toNat ((i : Int) + 1) - 1 = i := by omega
      have e2 : ¬ ((its.length : Int) < (i : Int) + 1) := by omega
      rw [e1, List.getElem?_map, List.getElem?_eq_getElem hi]
      simp (disch := omega) [h1, e2, wrap_in, hi, itemV, List.getElem?_cons_zero]
theorem check_find_is : ∀ l : List Stm, Stm.counts l ≤ 1000000 → ∀ mark : Int, 1 ≤ mark → mark ≤ 9223372036854775807 → den Sp check_find.id [.sl .no T_api_Stmt (l.map Stm.v), .int .i64 mark] [] none =
    some ⟨.ret (.tup (match (Stm.flats l)[mark.toNat - 1]? with | some s => [.agg s.v, .bool true] | none => [.agg (Stm.mk 0 [] [] 0 [] [] []).v, .bool false])), [], none⟩ := by
  refine Stm.ind_list fun l ih hc mark g0 g1 => ?_
  have hlen := Stm.counts_len l
  have hz : (Stm.mk 0 [] [] 0 [] [] []).v = [V.int IntKind.i64 0, V.str (B []), V.str (B []), V.int IntKind.i64 0, V.sl Tok.no T_api_Expr [], V.sl Tok.no T_api_Stmt [], V.sl Tok.no T_api_Stmt []] := by rw [Stm.v_mk]; rfl
  have key : ∀ i : Nat, i ≤ l.length → ∀ mark : Int, 1 ≤ mark → mark ≤ 9223372036854775807 → Stm.counts (l.drop i) ≤ 1000000 → check_find.L1_0_1_0 mark (l.map Stm.v) (l.length : Int) (i : Int) =
      some ⟨.ret (.tup (match (Stm.flats (l.drop i))[mark.toNat - 1]? with | some s => [.agg s.v, .bool true] | none => [.agg (Stm.mk 0 [] [] 0 [] [] []).v, .bool false])), [], none⟩ := by
    refine down (fun mark _ _ _ => ?_) fun i hi ihi mark h0 h1 hcd => ?_
    · rw [check_find.L1_0_1_0_eq]; simp [Stm.flats, hz]
    · rw [Stm.counts_drop hi, Stm.count_is] at hcd
      rw [Stm.flats_drop hi, Stm.flat_is]
      have hm := List.getElem_mem hi
      have hb := check_count_is l[i].body (by omega)
      have he := check_count_is l[i].els (by omega)
      rw [check_find.L1_0_1_0_eq]
      by_cases c1 : mark = 1
      · subst c1
        simp [hi]
      · have hfl : (Stm.flats l[i].body).length = Stm.counts l[i].body := Stm.flats_len _
        have hfe : (Stm.flats l[i].els).length = Stm.counts l[i].els := Stm.flats_len _
        by_cases c2 : mark > 1 + (Stm.counts l[i].body : Int) + (Stm.counts l[i].els : Int)
        · have h3 := ihi (mark - (1 + (Stm.counts l[i].body : Int) + (Stm.counts l[i].els : Int))) (by omega) (by omega) (by omega)
          rw [List.getElem?_append_right (by rw [List.length_cons, List.length_append]; omega)]
          have e : mark.toNat - 1 - (l[i] :: (Stm.flats l[i].body ++ Stm.flats l[i].els)).length = (mark - (1 + (Stm.counts l[i].body : Int) + (Stm.counts l[i].els : Int))).toNat - 1 := by rw [List.length_cons, List.length_append]; omega
          rw [e]
          simp (disch := omega) [hi, c1, hb, he, wrap_in, show 1 + (Stm.counts l[i].body : Int) + (Stm.counts l[i].els : Int) < mark from c2]
          simpa using h3
        · rw [List.getElem?_append_left (by rw [List.length_cons, List.length_append]; omega)]
          obtain ⟨k, hk⟩ : ∃ k : Nat, mark.toNat - 1 = k + 1 := ⟨mark.toNat - 2, by omega⟩
          rw [hk, List.getElem?_cons_succ]
          have c2' : ¬ (1 + (Stm.counts l[i].body : Int) + (Stm.counts l[i].els : Int) < mark) := by omega
          by_cases c3 : mark - 1 ≤ (Stm.counts l[i].body : Int)
          · have h3 := (ih _ hm).1 (by omega) (mark - 1) (by omega) (by omega)
            rw [List.getElem?_append_left (by omega)]
            have e : (mark - 1).toNat - 1 = k := by omega
            rw [e] at h3
            simp (disch := omega) [hi, c1, hb, he, wrap_in, c2', c3, h3]
            cases hq : (Stm.flats l[i].body)[k]? <;> simp [hz]
          · have h3 := (ih _ hm).2 (by omega) (mark - 1 - (Stm.counts l[i].body : Int)) (by omega) (by omega)
            rw [List.getElem?_append_right (by omega)]
            have e : (mark - 1 - (Stm.counts l[i].body : Int)).toNat - 1 = k - (Stm.flats l[i].body).length := by omega
            rw [e] at h3
            simp (disch := omega) [hi, c1, hb, he, wrap_in, c2', c3, h3]
            cases hq : (Stm.flats l[i].els)[k - (Stm.flats l[i].body).length]? <;> simp [hz]
  rw [check_find.eq]
  simpa using key 0 (Nat.zero_le _) mark g0 g1 (by simpa using hc)
theorem check_Stmt_is (nm : List UInt8) (ps : List (List V)) (t : Int) (l : List Stm) (hc : Stm.counts l ≤ 999999) (mark : Int) (hm : mark ≤ 9223372036854775807) :
    den Sp check_Stmt.id [.agg [.str (B nm), .sl .no T_api_Param ps, .int .i64 t, .sl .no T_api_Stmt (l.map Stm.v)], .int .i64 mark] [] none =
    some ⟨.ret (.tup (match (if mark < 1 then none else (Stm.flats l)[mark.toNat - 1]?) with | some s => [.agg s.v, .bool true] | none => [.agg (Stm.mk 0 [] [] 0 [] [] []).v, .bool false])), [], none⟩ := by
  have hz : (Stm.mk 0 [] [] 0 [] [] []).v = [V.int IntKind.i64 0, V.str (B []), V.str (B []), V.int IntKind.i64 0, V.sl Tok.no T_api_Expr [], V.sl Tok.no T_api_Stmt [], V.sl Tok.no T_api_Stmt []] := by rw [Stm.v_mk]; rfl
  rw [check_Stmt.eq]
  by_cases h1 : mark < 1
  · simp [h1, hz]
  · rw [check_find_is l (by omega) mark (by omega) hm]
    simp only [if_neg h1]
    cases hq : (Stm.flats l)[mark.toNat - 1]? <;> simp [h1, hz]
/-- A row of expressions, of statements, is the same as itself. -/
theorem ref03_SameExpr_refl : ∀ x : Ex, ExOk x → den Sp ref03_SameExpr.id [.agg x.v, .agg x.v] [] none = some ⟨.ret (.bool true), [], none⟩ := by
  refine Ex.ind fun k s m l ih hx => ?_
  obtain ⟨hk, hs, hm, hl, hok⟩ := hx.inv
  have key : ∀ i : Nat, i ≤ l.length → ref03_SameExprs.L1_1_0_1_0 (l.map Ex.v) (l.map Ex.v) (i : Int) = some ⟨.ret (.bool true), [], none⟩ := by
    refine down ?_ fun i hi ihi => ?_
    · rw [ref03_SameExprs.L1_1_0_1_0_eq]; simp
    · have h1 := ih _ (List.getElem_mem hi) (hok _ (List.getElem_mem hi))
      rw [ref03_SameExprs.L1_1_0_1_0_eq]
      simp (disch := omega) [hi, h1, wrap_in, Ex.v_agg]
      simpa using ihi
  rw [Ex.v_mk, ref03_SameExpr.eq, ref03_SameExprs.eq]
  have := key 0 (Nat.zero_le _)
  simp at this
  simp [this]
theorem ref03_SameExprs_refl (l : List Ex) (hl : l.length ≤ 140737488351232) (hok : ∀ x ∈ l, ExOk x) : den Sp ref03_SameExprs.id [.sl .no T_api_Expr (l.map Ex.v), .sl .no T_api_Expr (l.map Ex.v)] [] none = some ⟨.ret (.bool true), [], none⟩ := by
  have key : ∀ i : Nat, i ≤ l.length → ref03_SameExprs.L1_1_0_1_0 (l.map Ex.v) (l.map Ex.v) (i : Int) = some ⟨.ret (.bool true), [], none⟩ := by
    refine down ?_ fun i hi ihi => ?_
    · rw [ref03_SameExprs.L1_1_0_1_0_eq]; simp
    · have h1 := ref03_SameExpr_refl _ (hok _ (List.getElem_mem hi))
      rw [ref03_SameExprs.L1_1_0_1_0_eq]
      simp (disch := omega) [hi, h1, wrap_in, Ex.v_agg]
      simpa using ihi
  rw [ref03_SameExprs.eq]
  have := key 0 (Nat.zero_le _)
  simp at this
  simp [this]
theorem ref03_SameStmts_refl : ∀ l : List Stm, l.length ≤ 140737488351232 → (∀ x ∈ l, StmOk x) → den Sp ref03_SameStmts.id [.sl .no T_api_Stmt (l.map Stm.v), .sl .no T_api_Stmt (l.map Stm.v)] [] none = some ⟨.ret (.bool true), [], none⟩ := by
  refine Stm.ind_list fun l ih hl hok => ?_
  have key : ∀ i : Nat, i ≤ l.length → ref03_SameStmts.L1_1_0_1_0 (l.map Stm.v) (l.map Stm.v) (i : Int) = some ⟨.ret (.bool true), [], none⟩ := by
    refine down ?_ fun i hi ihi => ?_
    · rw [ref03_SameStmts.L1_1_0_1_0_eq]; simp
    · have hm := List.getElem_mem hi
      have ho := (hok _ hm).inv'
      have h1 := (ih _ hm).1 ho.hb ho.hbs
      have h2 := (ih _ hm).2 ho.hl ho.hls
      have h3 := ref03_SameExprs_refl _ ho.he ho.hes
      rw [ref03_SameStmts.L1_1_0_1_0_eq]
      simp (disch := omega) [hi, h1, h2, h3, wrap_in]
      simpa using ihi
  rw [ref03_SameStmts.eq]
  have := key 0 (Nat.zero_le _)
  simp at this
  simp [this]
end Go.Proofs.Ytkelkkjkbpdldaa
