/- FoldSafe: what may not trap never traps. Own work. -/
import Derived.Test.YtipjanijidbelaaEnvIn
import Derived.Test.YtipjanijidbelaaKnFold
import Derived.Test.YtipjanijidbelaaRFoldT
namespace Go.Proofs.Ytipjanijidbelaa
open Go Go.Proofs.Ab Go.Proofs.Px
set_option linter.unusedVariables false
set_option linter.unusedSimpArgs false
set_option maxRecDepth 100000

/-- May an expression trap? -/
def trapsK (k : Int) (s : List UInt8) (m : Int) (l : List Ex) (r : Bool) : Bool :=
  builtP k s m l.length && (decide (k = 4) || (decide (k = 6) && (decide (s = [47]) || decide (s = [37])) && (match l with | _ :: y :: _ => decide (y.kind ≠ 1) || decide (y.num ≤ 0) || (match y.l with | [] => false | _ => true) | _ => false)) || r)
mutual
def trapsP : Ex → Bool
  | .mk k s m l => trapsK k s m l (trapsPs l)
def trapsPs : List Ex → Bool
  | [] => false
  | x :: l => trapsP x || trapsPs l
end
theorem fold_Traps_is : ∀ x : Ex, ExOk x → x.size ≤ 1000000 → den Sp fold_Traps.id [.agg x.v] [] none = some ⟨.ret (.bool (trapsP x)), [], none⟩ := by
  refine Ex.ind fun k s m l ih hx hsz => ?_
  obtain ⟨hk, hs, hm, hl, hok⟩ := hx.inv
  have hszl : Ex.sizes l ≤ 1000000 := by rw [Ex.size] at hsz; omega
  have hlen := Ex.sizes_len l
  have ih' : ∀ y ∈ l, den Sp fold_Traps.id [.agg [.int .i64 y.kind, .str (B y.name), .int .i64 y.num, .sl .no T_api_Expr (y.l.map Ex.v)]] [] none = some ⟨.ret (.bool (trapsP y)), [], none⟩ := fun y hy => by
    rw [Ex.v_agg]; exact ih y hy (hok y hy) (Nat.le_trans (Ex.size_mem hy) hszl)
  rw [Ex.v_mk, fold_Traps.eq, fold_built_is, trapsP]
  unfold trapsK
  simp only [Option.bind_some, onRet_ret, asBool_bool, List.length_map, int_beq]
  have loop : ∀ i : Nat, i ≤ l.length → ∀ a b c d e f g h, fold_Traps.L1_1_1_1_0_1_0 (l.map Ex.v) (l.length : Int) (i : Int) a b c d e f g h = some ⟨.ret (.bool (trapsPs (l.drop i))), [], none⟩ := by
    refine down (fun a b c d e f g h => ?_) fun i hi ihi a b c d e f g h => ?_
    · rw [fold_Traps.L1_1_1_1_0_1_0_eq, decide_eq_false (Int.lt_irrefl _), cond_false, List.drop_length, trapsPs]
    · rw [fold_Traps.L1_1_1_1_0_1_0_eq, decide_eq_true (show (i : Int) < (l.length : Int) by omega), cond_true, List.length_map, if_pos (in_row hi), Int.toNat_natCast, map_at _ _ _ hi, List.drop_eq_getElem_cons hi, trapsPs]
      simp only [Ex.v_0, Ex.v_1, Ex.v_2, Ex.v_3, asInt_int, asStr_str, asSl_sl, ih' _ (List.getElem_mem hi), Option.bind_some, onRet_ret, asBool_bool]
      rw [wrap_nat (by omega), ihi]
      cases trapsP l[i] <;> rfl
  have loop1 : ∀ i : Nat, i ≤ l.length → ∀ a b c d, fold_Traps.L1_1_1_1_0_1_0v1 (l.map Ex.v) (l.length : Int) (i : Int) a b c d = some ⟨.ret (.bool (trapsPs (l.drop i))), [], none⟩ := by
    refine down (fun a b c d => ?_) fun i hi ihi a b c d => ?_
    · rw [fold_Traps.L1_1_1_1_0_1_0v1_eq, decide_eq_false (Int.lt_irrefl _), cond_false, List.drop_length, trapsPs]
    · rw [fold_Traps.L1_1_1_1_0_1_0v1_eq, decide_eq_true (show (i : Int) < (l.length : Int) by omega), cond_true, List.length_map, if_pos (in_row hi), Int.toNat_natCast, map_at _ _ _ hi, List.drop_eq_getElem_cons hi, trapsPs]
      simp only [Ex.v_0, Ex.v_1, Ex.v_2, Ex.v_3, asInt_int, asStr_str, asSl_sl, ih' _ (List.getElem_mem hi), Option.bind_some, onRet_ret, asBool_bool]
      rw [wrap_nat (by omega), ihi]
      cases trapsP l[i] <;> rfl
  have loop0 := loop 0 (Nat.zero_le _)
  have loop10 := loop1 0 (Nat.zero_le _)
  rw [List.drop_zero] at loop0 loop10
  have loop0' : ∀ a b c d e f g h, fold_Traps.L1_1_1_1_0_1_0 (l.map Ex.v) (l.length : Int) 0 a b c d e f g h = some ⟨.ret (.bool (trapsPs l)), [], none⟩ := loop0
  have loop10' : ∀ a b c d, fold_Traps.L1_1_1_1_0_1_0v1 (l.map Ex.v) (l.length : Int) 0 a b c d = some ⟨.ret (.bool (trapsPs l)), [], none⟩ := loop10
  cases hb : builtP k s m l.length with
  | false => simp
  | true =>
    rw [Bool.true_and, Bool.not_true, cond_false]
    by_cases h4 : k = 4
    · simp [h4]
    by_cases h6 : k = 6
    · subst h6
      rcases built_forms hb with ⟨h, _⟩ | ⟨h, _⟩ | ⟨h, _⟩ | ⟨h, _⟩ | ⟨h, _⟩ | ⟨_, h, _⟩
      · omega
      · omega
      · omega
      · omega
      · omega
      · obtain ⟨y, z, rfl⟩ := two_of h
        have key : ∀ r : Option Res, (∀ a b c d e f g h, fold_Traps.L1_1_1_1_0_1_0 ([y, z].map Ex.v) ([y, z].length : Int) 0 a b c d e f g h = r) → r = some ⟨.ret (.bool (trapsPs [y, z])), [], none⟩ := fun r hr => by rw [← loop0' 0 default 0 [] 0 default 0 []]; exact (hr ..).symm
        by_cases s1 : s = [47] ∨ s = [37]
        · have s1' : (decide (s = [47]) || decide (s = [37])) = true := by simpa using s1
          by_cases k1 : z.kind = 1
          · by_cases n1 : z.num ≤ 0
            · rcases s1 with rfl | rfl <;> simp [k1, n1]
            · cases hzl : z.l with
              | nil =>
                rcases s1 with rfl | rfl <;> simp [k1, n1, hzl] <;> exact loop0' ..
              | cons a b =>
                have : (b.length : Int) + 1 > 0 := by omega
                rcases s1 with rfl | rfl <;> simp [k1, n1, hzl, this]
          · rcases s1 with rfl | rfl <;> simp [k1]
        · have g1 : ¬ s = [47] := fun h => s1 (.inl h)
          have g2 : ¬ s = [37] := fun h => s1 (.inr h)
          simp [g1, g2]
          exact loop10' ..
    · simp [h4, h6]
      exact loop10' ..
/-- **What traps may trap.** -/
theorem worth_traps (e : Ev) : ∀ x : Ex, (worth e x).2 ≠ 0 → trapsP x = true := by
  refine Ex.ind fun k s m l ih h => ?_
  rw [worth] at h
  unfold worthK at h
  rw [trapsP]
  unfold trapsK
  have mem : ∀ y ∈ l, trapsP y = true → trapsPs l = true := by
    clear ih h
    induction l with
    | nil => intro y hy; cases hy
    | cons a l ih =>
      intro y hy ht
      rw [trapsPs]
      rcases List.mem_cons.1 hy with rfl | hy
      · rw [ht]; rfl
      · rw [ih y hy ht]; simp
  cases hb : builtP k s m l.length with
  | false => rw [hb] at h; simp at h
  | true =>
    rw [hb, if_neg (fun h => Bool.noConfusion h)] at h
    rcases built_forms hb with ⟨rfl, hl⟩ | ⟨rfl, hl⟩ | ⟨rfl, hl⟩ | ⟨rfl, hl⟩ | ⟨rfl, hl, h5⟩ | ⟨rfl, hl, h6⟩
    · simp at h
    · simp at h
    · simp at h
    · simp
    · obtain ⟨y, rfl⟩ := List.length_eq_one_iff.1 hl
      have hy := ih y (List.mem_singleton_self y)
      by_cases ht : (worth e y).2 = 0
      · rcases h5 with rfl | rfl <;> simp [worths, ht] at h
      · rw [mem y (List.mem_singleton_self y) (hy ht)]; simp
    · obtain ⟨y, z, rfl⟩ := two_of hl
      have hy := ih y (List.mem_cons_self ..)
      have hz := ih z (List.mem_cons_of_mem _ (List.mem_singleton_self z))
      by_cases ht : (worth e y).2 = 0
      · by_cases hu : (worth e z).2 = 0
        · simp [worths, ht, hu] at h
          by_cases g1 : s = [38, 38]
          · subst g1
            by_cases ha : (worth e y).1 = 0 <;> simp [ha, twoR] at h
          by_cases g2 : s = [124, 124]
          · subst g2
            by_cases ha : (worth e y).1 = 0 <;> simp [ha, twoR] at h
          simp [g1, g2, twoR] at h
          -- a division by 0
          by_cases g3 : s = [47] ∨ s = [37]
          · have hb0 : (worth e z).1 = 0 := by
              by_cases hb0 : (worth e z).1 = 0
              · exact hb0
              · rcases g3 with rfl | rfl <;> simp [twoP, hb0] at h
            obtain ⟨zk, zs, zm, zl⟩ := z
            by_cases k1 : zk = 1
            · by_cases n1 : zm ≤ 0
              · rcases g3 with rfl | rfl <;> simp [k1, n1]
              · cases zl with
                | nil =>
                  subst k1
                  rw [worth] at hb0
                  unfold worthK at hb0
                  have hbz : builtP 1 zs zm ([] : List Ex).length = true := by simp [builtP, partsK, signOk]
                  rw [hbz] at hb0
                  simp at hb0
                  omega
                | cons a b => rcases g3 with rfl | rfl <;> simp [k1, n1]
            · rcases g3 with rfl | rfl <;> simp [k1]
          · simp only [not_or] at g3
            obtain ⟨g3, g4⟩ := g3
            unfold twoP at h
            simp only [g3, g4, if_false] at h
            exfalso
            revert h
            repeat' split
            all_goals simp
        · rw [mem z (List.mem_cons_of_mem _ (List.mem_singleton_self z)) (hz hu)]; simp
      · rw [mem y (List.mem_cons_self ..) (hy ht)]; simp
theorem foldSafe_den (x0 : List V) (h0 : Fits Sp.P Sp.pz T_api_Expr x0) (x1 : List V) (h1 : Fits Sp.P Sp.pz T_parallaxref05_Env x1) : den Sp law05_FoldSafe.id [.agg x0, .agg x1] [] none = some ⟨.ret (.bool true), [], none⟩ := by
  obtain ⟨x, rfl, hx⟩ := expr_in h0
  obtain ⟨e, rfl, he, g0, g1, g2, g3, g4⟩ := env_in h1
  obtain ⟨b, hb, hbs⟩ := law05_great_is x hx
  obtain ⟨c, hc⟩ := law05_many_is e g0 g1 g2 g3 g4
  have ho := law05_own_is e
  have hf := fold_Eval_is e he x hx
  have c2 : List.contains [2] 2 = true := rfl
  have ht : b = false → den Sp fold_Traps.id [.agg x.v] [] none = some ⟨.ret (.bool (trapsP x)), [], none⟩ := fun h => fold_Traps_is x hx (by have := hbs h; omega)
  have hw := worth_traps e x
  unfold Ev.v at *
  rw [Ex.v_is, law05_FoldSafe.eq, c2, tokOf_tkz]
  simp only [Ex.v_list]
  rw [hb, hc, ho, law05_known_is]
  simp only [Option.bind_some, onRet_ret, asBool_bool]
  cases b with
  | true => rfl
  | false =>
    cases c with
    | true => rfl
    | false =>
      have ht := ht rfl
      by_cases h2 : (worth e x).2 = 0
      · cases hz : e.vz <;> simp only [hz, tkz_true, tkz_false] at hf <;> simp [hf, retII, h2]
      · have h3 := hw h2
        cases hz : e.vz <;> simp only [hz, tkz_true, tkz_false] at hf <;> simp [hf, retII, h2, ht, h3]
end Go.Proofs.Ytipjanijidbelaa
