/- Folding, plainly, and what the program's fold answers. Own work. -/
import Derived.Test.YtipjanijidbelaaFoldB
namespace Go.Proofs.Ytipjanijidbelaa
open Go Go.Proofs.Ab Go.Proofs.Px
set_option linter.unusedVariables false
set_option linter.unusedSimpArgs false
set_option maxRecDepth 100000

theorem wf_i64 {n : Int} (h : i64 n) : (Lit.int .i64 n).wf = true := by
  show (decide (-9223372036854775808 ≤ n) && decide (n ≤ 9223372036854775807)) = true
  rw [Bool.and_eq_true, decide_eq_true_eq, decide_eq_true_eq]
  exact h
def ev0 : Ev := ⟨[], true, [], []⟩
theorem ev0_ok : EvOk ev0 := ⟨(by decide), (fun n h => by cases h), (fun p h => by cases h)⟩
/-- What an expression of constants is worth, as an expression. -/
def constantP (x : Ex) : Option Ex :=
  if (x.l.all fun y => (constP y).isSome) = true then
    (if (worth ev0 x).2 ≠ 0 ∨ x.kind = 4 ∨ x.l = [] then none
    else if x.logic = true then some (boolE (worth ev0 x).1) else some (litP (worth ev0 x).1))
  else none
/-- A smaller one than one of two with a sign between. -/
def lessP (s : List UInt8) (a b out : Ex) : Ex :=
  if s = [38, 38] then (if a.isBool 0 = true then a else if (a.isBool 1 && b.logic) = true then b else if (b.isBool 1 && a.logic) = true then a else out)
  else if s = [124, 124] then (if a.isBool 1 = true then a else if (a.isBool 0 && b.logic) = true then b else if (b.isBool 0 && a.logic) = true then a else out)
  else if s = [43] then (if (a.isInt 0 && !b.isInt 0) = true then b else if b.isInt 0 = true then a else out)
  else if s = [45] then (if b.isInt 0 = true then a else out)
  else if s = [42] then (if (a.isInt 1 && !b.isInt 1) = true then b else if b.isInt 1 = true then a else out)
  else if s = [47] then (if b.isInt 1 = true then a else out)
  else out
/-- One whose parts are folded, folded itself. -/
def unP (s : List UInt8) (y out : Ex) : Ex :=
  match y.l with
  | z :: _ => if (decide (y.kind = 5) && decide (y.name = s) && y.built && (decide (s = [45]) || z.logic)) = true then z else out
  | [] => out
def stepP (x : Ex) : Ex :=
  if (constP x).isSome = true then x else match constantP x with
  | some y => y
  | none => match x.l with
    | [y] => if x.kind = 5 then unP x.name y x else x
    | [a, b] => if x.kind = 6 then lessP x.name a b x else x
    | _ => x
mutual
def foldP : Ex → Ex
  | .mk k s m l => if builtP k s m l.length = true then stepP (.mk k s m (foldPs l)) else .mk k s m l
def foldPs : List Ex → List Ex
  | [] => []
  | x :: l => foldP x :: foldPs l
end
theorem foldPs_len : ∀ l : List Ex, (foldPs l).length = l.length
  | [] => rfl
  | x :: l => by rw [foldPs, List.length_cons, foldPs_len l, List.length_cons]
theorem ExOk.l {x : Ex} (h : ExOk x) : ∀ y ∈ x.l, ExOk y := by cases x; exact h.inv.2.2.2.2
theorem intE_ok {n : Int} (h : i64 n) : ExOk (intE n) := .mk (by decide) (by decide) (wf_i64 h) (by decide) (fun x h => by cases h)
theorem boolE_ok {n : Int} (h : i64 n) : ExOk (boolE n) := .mk (by decide) (by decide) (wf_i64 h) (by decide) (fun x h => by cases h)
theorem un_ok {x : Ex} (h : ExOk x) : ExOk (.mk 5 [45] 0 [x]) := .mk (by decide) (by decide) (by decide) (by simp) (fun y hy => by rw [List.mem_singleton] at hy; exact hy ▸ h)
theorem litP_ok {n : Int} (h : i64 n) : ExOk (litP n) := by
  unfold i64 at h
  unfold litP minI
  split
  · exact intE_ok h
  · split
    · refine .mk (by decide) (by decide) (by decide) (by simp) fun y hy => ?_
      rcases List.mem_cons.1 hy with rfl | hy
      · exact un_ok (intE_ok (by unfold i64; omega))
      · rw [List.mem_singleton] at hy; subst hy; exact intE_ok (by unfold i64; omega)
    · exact un_ok (intE_ok (by unfold i64; omega))
theorem constantP_ok {x y : Ex} (hx : ExOk x) (h : constantP x = some y) : ExOk y := by
  have hw := worth_in ev0_ok hx
  unfold constantP at h
  split at h
  · split at h
    · cases h
    · split at h
      · cases h; exact boolE_ok hw
      · cases h; exact litP_ok hw
  · cases h
theorem lessP_mem (s : List UInt8) (a b out : Ex) : lessP s a b out = a ∨ lessP s a b out = b ∨ lessP s a b out = out := by
  unfold lessP
  repeat' split
  all_goals simp
theorem unP_mem (s : List UInt8) (y out : Ex) : unP s y out = out ∨ ∃ z l, y.l = z :: l ∧ y.built = true ∧ unP s y out = z := by
  unfold unP
  cases hl : y.l with
  | nil => exact .inl rfl
  | cons z l =>
    dsimp only
    split
    · rename_i h
      simp only [Bool.and_eq_true] at h
      exact .inr ⟨z, l, rfl, h.1.2, rfl⟩
    · exact .inl rfl
theorem stepP_ok {x : Ex} (hx : ExOk x) : ExOk (stepP x) := by
  unfold stepP
  split
  · exact hx
  · cases hc : constantP x with
    | some y => exact constantP_ok hx hc
    | none =>
      dsimp only
      have hl := hx.l
      split
      · rename_i y hxl
        split
        · rcases unP_mem x.name y x with h | ⟨z, l, h1, _, h2⟩
          · rw [h]; exact hx
          · rw [h2]
            exact (hl y (by rw [hxl]; exact List.mem_singleton_self y)).l z (by rw [h1]; exact List.mem_cons_self ..)
        · exact hx
      · rename_i a b hxl
        split
        · rcases lessP_mem x.name a b x with h | h | h
          · rw [h]; exact hl a (by rw [hxl]; exact List.mem_cons_self ..)
          · rw [h]; exact hl b (by rw [hxl]; exact List.mem_cons_of_mem _ (List.mem_singleton_self b))
          · rw [h]; exact hx
        · exact hx
      · exact hx
mutual
theorem foldP_ok : ∀ {x : Ex}, ExOk x → ExOk (foldP x)
  | .mk k s m l, h => by
    rw [foldP]
    split
    · obtain ⟨h1, h2, h3, h4, h5⟩ := h.inv
      exact stepP_ok (.mk h1 h2 h3 (by rw [foldPs_len]; exact h4) (foldPs_ok h5))
    · exact h
theorem foldPs_ok : ∀ {l : List Ex}, (∀ x ∈ l, ExOk x) → ∀ x ∈ foldPs l, ExOk x
  | [], h, x, hx => by rw [foldPs] at hx; cases hx
  | y :: l, h, x, hx => by
    rw [foldPs] at hx
    rcases List.mem_cons.1 hx with rfl | hx
    · exact foldP_ok (h y (List.mem_cons_self ..))
    · exact foldPs_ok (fun z hz => h z (List.mem_cons_of_mem _ hz)) x hx
end
theorem fold_whole_is : ∀ x : Ex, x.size ≤ 1000000 → den Sp fold_whole.id [.agg x.v] [] none = some ⟨.ret (.agg x.v), [], none⟩ := by
  refine Ex.ind fun k s m l ih hsz => ?_
  have hszl : Ex.sizes l ≤ 1000000 := by rw [Ex.size] at hsz; omega
  have hlen := Ex.sizes_len l
  rw [Ex.v_mk, fold_whole.eq, List.length_map]
  have key : ∀ i : Nat, i ≤ l.length → fold_whole.L1_1_1_0_1_0 (l.map Ex.v) (l.length : Int) (i : Int) k (B s) m ((l.take i).map Ex.v) = some ⟨.ret (.agg [.int .i64 k, .str (B s), .int .i64 m, .sl .no T_api_Expr (l.map Ex.v)]), [], none⟩ := by
    refine down ?_ fun i hi ihi => ?_
    · rw [fold_whole.L1_1_1_0_1_0_eq, decide_eq_false (Int.lt_irrefl _), cond_false, List.take_length]
    · have h1 := ih _ (List.getElem_mem hi) (Nat.le_trans (Ex.size_mem (List.getElem_mem hi)) hszl)
      rw [fold_whole.L1_1_1_0_1_0_eq, decide_eq_true (show (i : Int) < (l.length : Int) by omega), cond_true, List.length_map, if_pos (in_row hi), Int.toNat_natCast, map_at _ _ _ hi]
      simp only [Ex.v_0, Ex.v_1, Ex.v_2, Ex.v_3, Nat.zero_add, Nat.reduceAdd, asInt_int, asStr_str, asSl_sl, Ex.v_list, h1, Option.bind_some, onRet_ret, asAgg_ex]
      have e : (List.take i l).map Ex.v ++ [l[i].v] = (List.take (i + 1) l).map Ex.v := by rw [List.take_succ_eq_append_getElem hi, List.map_append]; rfl
      rw [List.length_map, List.length_take, Nat.min_eq_left (by omega), if_pos (one_most (by omega)), e, wrap_nat (by omega)]
      exact ihi
  exact key 0 (Nat.zero_le _)
def zeroE : Ex := .mk 0 [] 0 []
def optE (o : Option Ex) : Option Res := match o with
  | some y => some ⟨.ret (.tup [.agg y.v, .bool true]), [], none⟩
  | none => some ⟨.ret (.tup [.agg zeroE.v, .bool false]), [], none⟩
theorem zeroE_v : [V.int .i64 0, V.str (B []), V.int .i64 0, V.sl .no T_api_Expr []] = zeroE.v := by unfold zeroE; rw [Ex.v_mk]; rfl
theorem boolE_v (n : Int) : [V.int .i64 2, V.str (B []), V.int .i64 n, V.sl .no T_api_Expr []] = (boolE n).v := by unfold boolE; rw [Ex.v_mk]; rfl
theorem fold_constant_is (x : Ex) (hx : ExOk x) (hl : x.l.length ≤ 1000000) : den Sp fold_constant.id [.agg x.v] [] none = optE (constantP x) := by
  have hE : ∀ y : Ex, ExOk y → den Sp fold_Eval.id [.agg y.v, .agg [.sl .no T_string [], .sl .nil T_int64 [], .sl .no T_L_int64 []]] [] none = retII (worth ev0 y) := fun y hy => fold_Eval_is ev0 ev0_ok y hy
  rw [Ex.v_is, fold_constant.eq, List.length_map]
  have key : ∀ i : Nat, i ≤ x.l.length → fold_constant.L1_0_1_0 (x.l.map Ex.v) (x.l.length : Int) (i : Int) x.kind (B x.name) x.num (x.l.map Ex.v) =
      if ((x.l.drop i).all fun y => (constP y).isSome) = true then optE (if (worth ev0 x).2 ≠ 0 ∨ x.kind = 4 ∨ x.l = [] then none else if x.logic = true then some (boolE (worth ev0 x).1) else some (litP (worth ev0 x).1)) else optE none := by
    refine down ?_ fun i hi ihi => ?_
    · rw [fold_constant.L1_0_1_0_eq, decide_eq_false (Int.lt_irrefl _), cond_false, List.drop_length, if_pos (show (([] : List Ex).all fun y => (constP y).isSome) = true from rfl)]
      simp only [Ex.v_list, hE x hx, retII, Option.bind_some, onRet_ret, asTup_tup, List.length_cons, List.length_nil, Nat.zero_add, Nat.reduceAdd, List.getD_cons_zero, List.getD_cons_succ, asInt_int, fold_logic_is, asBool_bool, List.length_map, int_bne, int_beq, fold_Lit_is _ (worth_in ev0_ok hx), asAgg_ex, Ex.v_0, Ex.v_1, Ex.v_2, Ex.v_3, asStr_str, asSl_sl, mk_B, zeroE_v, boolE_v]
      by_cases h1 : (worth ev0 x).2 = 0
      · by_cases h2 : x.kind = 4
        · simp [h1, h2, optE]
        · cases hxl : x.l with
          | nil => simp [h1, h2, optE]
          | cons a b =>
            have h3 : ¬ ((b.length : Int) + 1 = 0) := by omega
            cases hlg : x.logic <;> simp [h1, h2, h3, optE]
      · simp [h1, optE]
    · have hm := List.getElem_mem hi
      rw [fold_constant.L1_0_1_0_eq, decide_eq_true (show (i : Int) < (x.l.length : Int) by omega), cond_true, List.length_map, if_pos (in_row hi), Int.toNat_natCast, map_at _ _ _ hi, List.drop_eq_getElem_cons hi, List.all_cons]
      simp only [Ex.v_0, Ex.v_1, Ex.v_2, Ex.v_3, asInt_int, asStr_str, asSl_sl, Ex.v_list, fold_Const_is _ (hx.l _ hm), optV, Option.bind_some, onRet_ret, asTup_tup, List.length_cons, List.length_nil, Nat.zero_add, Nat.reduceAdd, List.getD_cons_zero, List.getD_cons_succ, asBool_bool, mk_B, zeroE_v]
      rw [wrap_nat (by omega), ihi]
      cases (constP x.l[i]).isSome <;> simp [optE]
  have h0 := key 0 (Nat.zero_le _)
  rw [List.drop_zero] at h0
  refine h0.trans ?_
  unfold constantP
  split <;> rfl
theorem fold_less_is (k : Int) (s : List UInt8) (m : Int) (a b : Ex) : den Sp fold_less.id [.agg (Ex.mk k s m [a, b]).v] [] none = some ⟨.ret (.agg (lessP s a b (.mk k s m [a, b])).v), [], none⟩ := by
  have t1 : truthI true = 1 := rfl
  have t0 : truthI false = 0 := rfl
  have w1 : IntKind.wrap IntKind.i64 1 = 1 := by decide
  have w0 : IntKind.wrap IntKind.i64 0 = 0 := by decide
  have w2 : IntKind.wrap IntKind.i64 (1 - 1) = 0 := by decide
  have w3 : IntKind.wrap IntKind.i64 (1 - 0) = 1 := by decide
  have mkv : [V.int .i64 k, V.str (B s), V.int .i64 m, V.sl .no T_api_Expr [a.v, b.v]] = (Ex.mk k s m [a, b]).v := by rw [Ex.v_mk]; rfl
  rw [Ex.v_mk, fold_less.eq]
  unfold lessP
  by_cases s1 : s = [38, 38]
  · subst s1
    cases h1 : a.isBool 0 <;> cases h2 : a.isBool 1 <;> cases h3 : b.logic <;> cases h4 : b.isBool 1 <;> cases h5 : a.logic <;>
      simp [fold_truth_is, fold_isBool_is, fold_logic_is, t0, t1, w0, w1, h1, h2, h3, h4, h5, mkv]
  by_cases s2 : s = [124, 124]
  · subst s2
    cases h1 : a.isBool 1 <;> cases h2 : a.isBool 0 <;> cases h3 : b.logic <;> cases h4 : b.isBool 0 <;> cases h5 : a.logic <;>
      simp [fold_truth_is, fold_isBool_is, fold_logic_is, t0, t1, w0, w1, h1, h2, h3, h4, h5, mkv]
  by_cases s3 : s = [43]
  · subst s3
    cases h1 : a.isInt 0 <;> cases h2 : b.isInt 0 <;> simp [fold_isInt_is, h1, h2, mkv]
  by_cases s4 : s = [45]
  · subst s4
    cases h2 : b.isInt 0 <;> simp [fold_isInt_is, h2, mkv]
  by_cases s5 : s = [42]
  · subst s5
    cases h1 : a.isInt 1 <;> cases h2 : b.isInt 1 <;> simp [fold_isInt_is, h1, h2, mkv]
  by_cases s6 : s = [47]
  · subst s6
    cases h2 : b.isInt 1 <;> simp [fold_isInt_is, h2, mkv]
  simp [s1, s2, s3, s4, s5, s6, mkv]
end Go.Proofs.Ytipjanijidbelaa
