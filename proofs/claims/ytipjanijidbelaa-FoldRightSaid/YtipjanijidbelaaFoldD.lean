/- The program's fold; sameness of expressions; folded is worth the same; folded twice is folded once. Own work. -/
import Derived.Test.YtipjanijidbelaaFoldC
import Derived.Test.YtipjanijidbelaaRSames
namespace Go.Proofs.Ytipjanijidbelaa
open Go Go.Proofs.Ab Go.Proofs.Px
set_option linter.unusedVariables false
set_option linter.unusedSimpArgs false
set_option maxRecDepth 100000

theorem foldPs_take (l : List Ex) (i : Nat) (hi : i < l.length) : foldPs (l.take i) ++ [foldP l[i]] = foldPs (l.take (i + 1)) := by
  induction l generalizing i with
  | nil => simp at hi
  | cons a l ih =>
    cases i with
    | zero => simp [foldPs]
    | succ i =>
      simp only [List.take_succ_cons, List.getElem_cons_succ, foldPs, List.cons_append]
      rw [ih i (by simpa using hi)]
theorem fold_Expr_is : ∀ x : Ex, ExOk x → x.size ≤ 1000000 → den Sp fold_Expr.id [.agg x.v] [] none = some ⟨.ret (.agg (foldP x).v), [], none⟩ := by
  refine Ex.ind fun k s m l ih hx hsz => ?_
  obtain ⟨hk, hs, hm, hl, hok⟩ := hx.inv
  have hszl : Ex.sizes l ≤ 1000000 := by rw [Ex.size] at hsz; omega
  have hlen := Ex.sizes_len l
  have hw := fold_whole_is (.mk k s m l) hsz
  rw [Ex.v_mk] at hw
  rw [Ex.v_mk, fold_Expr.eq, fold_built_is, hw, foldP, List.length_map]
  simp only [Option.bind_some, onRet_ret, asBool_bool]
  cases hb : builtP k s m l.length with
  | false =>
    have e := asAgg_ex (.mk k s m l)
    rw [Ex.v_mk] at e
    simp [Ex.v_mk]
  | true =>
    rw [Bool.not_true, cond_false, if_pos rfl]
    have hxo : ExOk (.mk k s m (foldPs l)) := .mk hk hs hm (by rw [foldPs_len]; exact hl) (foldPs_ok hok)
    have key : ∀ i : Nat, i ≤ l.length → fold_Expr.L1_1_1_1_0_1_0 (l.map Ex.v) (l.length : Int) (i : Int) k (B s) m (l.map Ex.v) k (B s) m ((foldPs (l.take i)).map Ex.v) = some ⟨.ret (.agg (stepP (.mk k s m (foldPs l))).v), [], none⟩ := by
      refine down ?_ fun i hi ihi => ?_
      · rw [fold_Expr.L1_1_1_1_0_1_0_eq, decide_eq_false (Int.lt_irrefl _), cond_false, List.take_length]
        have hlen2 := foldPs_len l
        generalize foldPs l = l' at *
        have hC := fold_Const_is _ hxo
        have hK := fold_constant_is _ hxo (show l'.length ≤ 1000000 by omega)
        rw [Ex.v_mk] at hC hK
        rw [hC, hK]
        unfold stepP
        simp only [optV, Option.bind_some, onRet_ret, asTup_tup, List.length_cons, List.length_nil, Nat.zero_add, Nat.reduceAdd, List.getD_cons_zero, List.getD_cons_succ, asInt_int, asBool_bool]
        cases hc : constP (.mk k s m l') with
        | some n => simp [Ex.v_mk]
        | none =>
          rw [Option.isSome_none, cond_false, if_neg (fun h => Bool.noConfusion h)]
          cases hcc : constantP (.mk k s m l') with
          | some y => simp [optE]
          | none =>
            simp only [optE, Option.bind_some, onRet_ret, asTup_tup, List.length_cons, List.length_nil, Nat.zero_add, Nat.reduceAdd, List.getD_cons_zero, List.getD_cons_succ, asAgg_ex, Ex.v_0, Ex.v_1, Ex.v_2, Ex.v_3, asInt_int, asStr_str, asSl_sl, asBool_bool, cond_false]
            rw [← hlen2] at hb
            rcases built_forms hb with ⟨rfl, h⟩ | ⟨rfl, h⟩ | ⟨rfl, h⟩ | ⟨rfl, h⟩ | ⟨rfl, h, h5⟩ | ⟨rfl, h, h6⟩
            · obtain rfl := List.length_eq_zero_iff.1 h; simp [Ex.v_mk]
            · obtain rfl := List.length_eq_zero_iff.1 h; simp [Ex.v_mk]
            · obtain rfl := List.length_eq_zero_iff.1 h; simp [Ex.v_mk]
            · obtain ⟨y, rfl⟩ := List.length_eq_one_iff.1 h; simp [Ex.v_mk]
            · obtain ⟨y, rfl⟩ := List.length_eq_one_iff.1 h
              have mkv : [V.int .i64 5, V.str (B s), V.int .i64 m, V.sl .no T_api_Expr [y.v]] = (Ex.mk 5 s m [y]).v := by rw [Ex.v_mk]; rfl
              have hbu : den Sp fold_built.id [.agg y.v] [] none = some ⟨.ret (.bool y.built), [], none⟩ := by
                have := fold_built_is y.kind y.name y.num (y.l.map Ex.v)
                rw [List.length_map] at this
                rw [Ex.v_is]; exact this
              simp only [Ex.kind_mk, Ex.l_mk, Ex.name_mk, if_true, unP, List.map_cons, List.map_nil, getD0, List.length_cons, List.length_nil, Ex.v_0, Ex.v_1, Ex.v_2, Ex.v_3, asInt_int, asStr_str, asSl_sl, Ex.v_list, hbu, Option.bind_some, onRet_ret, asBool_bool, mkv]
              cases hyl : y.l with
              | nil =>
                have hnb : y.kind = 5 → y.built = false := fun h5k => by
                  unfold Ex.built
                  rw [h5k, hyl]; simp [builtP, partsK]
                by_cases k5 : y.kind = 5
                · by_cases n5 : y.name = s
                  · simp [k5, n5, hnb k5, mkv]
                  · simp [k5, n5, mkv]
                · simp [k5, mkv]
              | cons z zl =>
                by_cases k5 : y.kind = 5
                · by_cases n5 : y.name = s
                  · cases hbb : y.built with
                    | false => simp [k5, n5, hbb, mkv]
                    | true =>
                      by_cases s45 : s = [45]
                      · simp [k5, n5, hyl, hbb, s45]
                      · cases hlg : z.logic <;> simp [k5, n5, hyl, hbb, s45, fold_logic_is, hlg, mkv]
                  · simp [k5, n5, mkv]
                · simp [k5, mkv]
            · obtain ⟨a, b, rfl⟩ := two_of h
              have mkv : [V.int .i64 6, V.str (B s), V.int .i64 m, V.sl .no T_api_Expr [a.v, b.v]] = (Ex.mk 6 s m [a, b]).v := by rw [Ex.v_mk]; rfl
              simp [mkv, fold_less_is]
      · have hm := List.getElem_mem hi
        have h1 := ih _ hm (hok _ hm) (Nat.le_trans (Ex.size_mem hm) hszl)
        rw [fold_Expr.L1_1_1_1_0_1_0_eq, decide_eq_true (show (i : Int) < (l.length : Int) by omega), cond_true, List.length_map, if_pos (in_row hi), Int.toNat_natCast, map_at _ _ _ hi]
        simp only [Ex.v_0, Ex.v_1, Ex.v_2, Ex.v_3, Nat.zero_add, Nat.reduceAdd, asInt_int, asStr_str, asSl_sl, Ex.v_list, h1, Option.bind_some, onRet_ret, asAgg_ex]
        have e : (foldPs (List.take i l)).map Ex.v ++ [(foldP l[i]).v] = (foldPs (List.take (i + 1) l)).map Ex.v := by rw [← foldPs_take l i hi, List.map_append]; rfl
        rw [List.length_map, foldPs_len, List.length_take, Nat.min_eq_left (by omega), if_pos (one_most (by omega)), e, wrap_nat (by omega)]
        exact ihi
    exact key 0 (Nat.zero_le _)
mutual
/-- Are two the same? -/
def Ex.same : Ex → Ex → Bool
  | .mk k s m l, .mk k' s' m' l' => decide (k = k') && decide (s = s') && decide (m = m') && Ex.sames l l'
def Ex.sames : List Ex → List Ex → Bool
  | [], [] => true
  | x :: l, y :: l' => Ex.same x y && Ex.sames l l'
  | _, _ => false
end
mutual
theorem Ex.same_iff : ∀ {x y : Ex}, Ex.same x y = true ↔ x = y
  | .mk k s m l, .mk k' s' m' l' => by
    rw [Ex.same]
    simp only [Bool.and_eq_true, decide_eq_true_eq]
    rw [Ex.sames_iff]
    constructor
    · rintro ⟨⟨⟨rfl, rfl⟩, rfl⟩, rfl⟩; rfl
    · intro h; injection h with h1 h2 h3 h4; exact ⟨⟨⟨h1, h2⟩, h3⟩, h4⟩
theorem Ex.sames_iff : ∀ {l l' : List Ex}, Ex.sames l l' = true ↔ l = l'
  | [], [] => by simp [Ex.sames]
  | x :: l, y :: l' => by
    rw [Ex.sames, Bool.and_eq_true, Ex.same_iff, Ex.sames_iff]
    constructor
    · rintro ⟨rfl, rfl⟩; rfl
    · intro h; injection h with h1 h2; exact ⟨h1, h2⟩
  | [], _ :: _ => by simp [Ex.sames]
  | _ :: _, [] => by simp [Ex.sames]
end
theorem Ex.sames_len : ∀ {l l' : List Ex}, Ex.sames l l' = true → l.length = l'.length := fun h => by rw [Ex.sames_iff.1 h]
theorem ref03_SameExprs_of (l l' : List Ex) (hl : l.length ≤ 140737488351232) (hl' : l'.length ≤ 140737488351232) (ih : ∀ x ∈ l, ∀ y ∈ l', den Sp ref03_SameExpr.id [.agg x.v, .agg y.v] [] none = some ⟨.ret (.bool (Ex.same x y)), [], none⟩) :
    den Sp ref03_SameExprs.id [.sl .no T_api_Expr (l.map Ex.v), .sl .no T_api_Expr (l'.map Ex.v)] [] none = some ⟨.ret (.bool (Ex.sames l l')), [], none⟩ := by
  rw [ref03_SameExprs.eq, List.length_map, List.length_map]
  by_cases hn : l.length = l'.length
  · rw [hn, show (((l'.length : Nat) : Int) != ((l'.length : Nat) : Int)) = false by simp, cond_false]
    have key : ∀ i : Nat, i ≤ l.length → ref03_SameExprs.L1_1_0_1_0 (l.map Ex.v) (l'.map Ex.v) (i : Int) = some ⟨.ret (.bool (Ex.sames (l.drop i) (l'.drop i))), [], none⟩ := by
      refine down ?_ fun i hi ihi => ?_
      · rw [ref03_SameExprs.L1_1_0_1_0_eq, List.length_map, decide_eq_false (Int.lt_irrefl _), cond_false, List.drop_length, hn, List.drop_length, Ex.sames]
      · have hi' : i < l'.length := by omega
        have h2 := ih _ (List.getElem_mem hi) _ (List.getElem_mem hi')
        rw [ref03_SameExprs.L1_1_0_1_0_eq, List.length_map, decide_eq_true (show (i : Int) < (l.length : Int) by omega), cond_true, if_pos (in_row hi), Int.toNat_natCast, map_at _ _ _ hi, map_at _ _ _ hi', List.drop_eq_getElem_cons hi, List.drop_eq_getElem_cons hi', Ex.sames]
        simp only [Ex.v_0, Ex.v_1, Ex.v_2, Ex.v_3, asInt_int, asStr_str, asSl_sl, List.length_map]
        rw [if_pos (in_row hi')]
        simp only [Ex.v_list, h2, Option.bind_some, onRet_ret, asBool_bool]
        rw [wrap_nat (by omega), ihi]
        cases Ex.same l[i] l'[i] <;> rfl
    exact key 0 (Nat.zero_le _)
  · have h1 : (((l.length : Nat) : Int) != ((l'.length : Nat) : Int)) = true := by simp; omega
    rw [h1, cond_true]
    cases hs : Ex.sames l l' with
    | false => rfl
    | true => exact absurd (Ex.sames_len hs) hn
theorem ref03_SameExpr_is : ∀ x : Ex, ExOk x → ∀ y : Ex, ExOk y → den Sp ref03_SameExpr.id [.agg x.v, .agg y.v] [] none = some ⟨.ret (.bool (Ex.same x y)), [], none⟩ := by
  refine Ex.ind fun k s m l ih hx y hy => ?_
  obtain ⟨k', s', m', l'⟩ := y
  obtain ⟨_, _, _, hl, hok⟩ := hx.inv
  obtain ⟨_, _, _, hl', hok'⟩ := hy.inv
  have h1 := ref03_SameExprs_of l l' hl hl' fun x hx y hy => ih x hx (hok x hx) y (hok' y hy)
  rw [Ex.v_mk, Ex.v_mk, ref03_SameExpr.eq, h1, Ex.same]
  simp only [Option.bind_some, onRet_ret, asBool_bool, int_bne]
  by_cases a1 : k = k' <;> by_cases a2 : s = s' <;> by_cases a3 : m = m' <;> simp [a1, a2, a3]
theorem ref03_SameExprs_is (l l' : List Ex) (hl : l.length ≤ 140737488351232) (hl' : l'.length ≤ 140737488351232) (h : ∀ x ∈ l, ExOk x) (h' : ∀ x ∈ l', ExOk x) :
    den Sp ref03_SameExprs.id [.sl .no T_api_Expr (l.map Ex.v), .sl .no T_api_Expr (l'.map Ex.v)] [] none = some ⟨.ret (.bool (Ex.sames l l')), [], none⟩ :=
  ref03_SameExprs_of l l' hl hl' fun x hx y hy => ref03_SameExpr_is x (h x hx) y (h' y hy)
end Go.Proofs.Ytipjanijidbelaa
