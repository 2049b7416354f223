/- What an expression is worth by the reference; sizes of expressions and of values. Own work. -/
import Derived.Test.YtipjanijidbelaaEvalA
import Derived.Test.YtipjanijidbelaaRSizes
import Derived.Test.YtipjanijidbelaaRLaw5
namespace Go.Proofs.Ytipjanijidbelaa
open Go Go.Proofs.Ab Go.Proofs.Px
set_option linter.unusedVariables false
set_option linter.unusedSimpArgs false
set_option maxRecDepth 100000

theorem ref05_Eval_is (e : Ev) (he : EvOk e) : ∀ x : Ex, ExOk x → den Sp ref05_Eval.id [.agg x.v, .agg e.v] [] none = retII (worth e x) := by
  refine Ex.ind fun k s m l ih hx => ?_
  obtain ⟨hk, hs, hm, hl, hok⟩ := hx.inv
  have ih' : ∀ y ∈ l, den Sp ref05_Eval.id [.agg [.int .i64 y.kind, .str (B y.name), .int .i64 y.num, .sl .no T_api_Expr (y.l.map Ex.v)], .agg [.sl .no T_string (sv e.names), .sl (tkz e.vz) T_int64 (iv e.vals), .sl .no T_L_int64 (lv e.lists)]] [] none = retII (worth e y) := fun y hy => by
    rw [Ex.v_agg]; exact ih y hy (hok y hy)
  have hval := ref05_list_is e s he
  have hpl := ref05_place_is s e.names he.names
  unfold Ev.v at hval
  have c2 : List.contains [2] 2 = true := rfl
  unfold Ev.v
  rw [Ex.v_mk, ref05_Eval.eq, ref05_Built_is, c2, tokOf_tkz, hval, hpl, worth]
  unfold worthK
  have hvk := Ev.value_ok he s
  simp only [Option.bind_some, onRet_ret, asBool_bool, List.length_map, int_beq]
  cases hb : builtP k s m l.length with
  | false => simp [retII]
  | true =>
    rw [if_neg (fun h => Bool.noConfusion h), Bool.not_true, cond_false]
    rcases built_forms hb with ⟨rfl, h⟩ | ⟨rfl, h⟩ | ⟨rfl, h⟩ | ⟨rfl, h⟩ | ⟨rfl, h, h5⟩ | ⟨rfl, h, h6⟩
    · simp [retII]
    · simp [retII]
    · have e1 : (if (e.value s).2.1 = true then (e.value s).1 else 0) = match whereIs s e.names 0 with | some i => (if (e.lists.getD i (true, [])).1 = true then e.vals.getD i 0 else 0) | none => 0 := by
        unfold Ev.value
        cases whereIs s e.names 0 <;> rfl
      cases hz : (e.value s).2.1 with
      | false => simp [retII, hz]
      | true =>
        unfold placeI
        unfold Ev.value at hz ⊢
        cases hw : whereIs s e.names 0 with
        | none => simp [retII]
        | some i =>
          rw [hw] at hz
          have hz' : (e.lists.getD i (true, [])).1 = true := hz
          by_cases h1 : i < e.vals.length
          · have h2 : ¬ e.vals.length ≤ i := by omega
            have h3 : ¬ ((i : Int) < 0) := by omega
            simp [retII, h1, h2, h3, Ev.at, iv]
          · have h2 : e.vals.length ≤ i := by omega
            simp [retII, h1, h2, Ev.at]
    · obtain ⟨y, rfl⟩ := List.length_eq_one_iff.1 h
      have hy := ih' y (List.mem_singleton_self y)
      simp only [List.map_cons, List.map_nil, List.length_cons, List.length_nil, getD0, Ex.v_0, Ex.v_1, Ex.v_2, Ex.v_3, asInt_int, asStr_str, asSl_sl, hy, worths]
      obtain ⟨a, t, hr⟩ : ∃ a t, worth e y = (a, t) := ⟨_, _, rfl⟩
      by_cases ht : t = 0
      · subst ht
        obtain ⟨_, hz, _⟩ := hvk
        cases hz2 : (e.value s).2.1 with
        | true =>
          rw [hz hz2]
          by_cases ha : a < 0
          · have : ¬ (0 ≤ a) := by omega
            simp [hr, retII, ha, this]
          · have h1 : ¬ (a < 0) := ha
            have : 0 ≤ a := by omega
            simp [hr, retII, this, h1]
        | false =>
          by_cases ha : a < 0
          · have : ¬ (0 ≤ a) := by omega
            simp [hr, retII, ha, this]
          · have h1 : 0 ≤ a := by omega
            obtain ⟨i, rfl⟩ := Int.eq_ofNat_of_zero_le h1
            by_cases h2 : i < (e.value s).2.2.length
            · have h3 : ¬ (e.value s).2.2.length ≤ i := by omega
              simp [hr, retII, h2, h3, ha, iv]
            · have h3 : (e.value s).2.2.length ≤ i := by omega
              simp [hr, retII, h2, h3, ha]
      · simp [hr, retII, ht]
    · obtain ⟨y, rfl⟩ := List.length_eq_one_iff.1 h
      have hy := ih' y (List.mem_singleton_self y)
      simp only [List.map_cons, List.map_nil, List.length_cons, List.length_nil, getD0, Ex.v_0, Ex.v_1, Ex.v_2, Ex.v_3, asInt_int, asStr_str, asSl_sl, hy, worths, ref05_truth_is, ref01_Neg_is]
      obtain ⟨a, t, hr⟩ : ∃ a t, worth e y = (a, t) := ⟨_, _, rfl⟩
      by_cases ht : t = 0
      · subst ht
        rcases h5 with rfl | rfl <;> simp [hr, retII]
      · simp [hr, retII, ht]
    · obtain ⟨y, z, rfl⟩ := two_of h
      have hy := ih' y (List.mem_cons_self ..)
      have hz := ih' z (List.mem_cons_of_mem _ (List.mem_singleton_self z))
      have iy := worth_in he (hok y (List.mem_cons_self ..))
      have iz := worth_in he (hok z (List.mem_cons_of_mem _ (List.mem_singleton_self z)))
      obtain ⟨a, t, hr⟩ : ∃ a t, worth e y = (a, t) := ⟨_, _, rfl⟩
      obtain ⟨b, u, hq⟩ : ∃ a t, worth e z = (a, t) := ⟨_, _, rfl⟩
      rw [hr] at iy
      rw [hq] at iz
      simp only [List.map_cons, List.map_nil, List.length_cons, List.length_nil, getD0, getD1, Ex.v_0, Ex.v_1, Ex.v_2, Ex.v_3, asInt_int, asStr_str, asSl_sl, hy, hz, worths, ref05_truth_is, ref01_Neg_is]
      have h2 := ref05_Two_is s a b iy iz h6
      have n33 : ¬ s = [33] := by rintro rfl; revert h6; decide
      by_cases ht : t = 0
      · subst ht
        by_cases hu : u = 0
        · subst hu
          by_cases s1 : s = [38, 38]
          · subst s1
            by_cases ha : a = 0 <;> simp [hr, hq, retII, ha, h2]
          · by_cases s2 : s = [124, 124]
            · subst s2
              by_cases ha : a = 0
              · subst ha; simp [hr, hq, retII, h2]
              · simp [hr, hq, retII, ha, h2]
            · simp [hr, hq, retII, s1, s2, n33, h2]
        · by_cases s1 : s = [38, 38]
          · subst s1
            by_cases ha : a = 0 <;> simp [hr, hq, retII, ha, hu]
          · by_cases s2 : s = [124, 124]
            · subst s2
              by_cases ha : a = 0 <;> simp [hr, hq, retII, ha, hu]
            · simp [hr, hq, retII, s1, s2, hu, n33]
      · simp [hr, hq, retII, ht]
/-- How great an expression is, as far as a bound. -/
def sizeGo (f : Ex → Int → Int) (most : Int) : List Ex → Int → Int
  | [], n => n
  | x :: l, n => if n ≤ most then sizeGo f most l (n + f x (most - n)) else n
mutual
def sizeB : Ex → Int → Int
  | .mk k s m l, most => sizesB l most (1 + ((s.length / 8 : Nat) : Int))
def sizesB : List Ex → Int → Int → Int
  | [], most, n => n
  | x :: l, most, n => if n ≤ most then sizesB l most (n + sizeB x (most - n)) else n
end
mutual
theorem sizeB_le : ∀ {x : Ex}, ExOk x → ∀ most : Int, 0 ≤ sizeB x most ∧ (0 ≤ most → sizeB x most ≤ most + 17592186044417)
  | .mk k s m l, h, most => by
    obtain ⟨_, hs, _, _, hl⟩ := h.inv
    have h1 : s.length / 8 ≤ 17592186043904 := by omega
    rw [sizeB]
    have := sizesB_le (l := l) hl most (1 + ((s.length / 8 : Nat) : Int)) (by omega)
    exact ⟨by omega, fun hm => this.2 hm (by omega)⟩
theorem sizesB_le : ∀ {l : List Ex}, (∀ x ∈ l, ExOk x) → ∀ most n : Int, 0 ≤ n → n ≤ sizesB l most n ∧ (0 ≤ most → n ≤ most + 17592186044417 → sizesB l most n ≤ most + 17592186044417)
  | [], h, most, n, h0 => by rw [sizesB]; exact ⟨by omega, fun _ h => h⟩
  | x :: l, h, most, n, h0 => by
    rw [sizesB]
    split
    · rename_i hn
      have h1 := sizeB_le (h x (List.mem_cons_self ..)) (most - n)
      have h2 := sizesB_le (fun y hy => h y (List.mem_cons_of_mem _ hy)) most (n + sizeB x (most - n)) (by omega)
      refine ⟨by omega, fun hm hb => h2.2 hm ?_⟩
      have := h1.2 (by omega)
      omega
    · exact ⟨by omega, fun _ h => h⟩
end
theorem ref03_ExprSize_at : ∀ x : Ex, ExOk x → ∀ most : Int, 0 ≤ most → most ≤ 1000000 → den Sp ref03_ExprSize.id [.agg x.v, .int .i64 most] [] none = some ⟨.ret (.int .i64 (sizeB x most)), [], none⟩ := by
  refine Ex.ind fun k s m l ih hx most h0 h1 => ?_
  obtain ⟨hk, hs, hm, hl, hok⟩ := hx.inv
  have e1 : IntKind.wrap IntKind.i64 ((1 : Int) + IntKind.wrap IntKind.i64 (Int.tdiv ((ByteArray.size (B s) : Nat) : Int) 8)) = 1 + ((s.length / 8 : Nat) : Int) := by
    rw [B_size, Int.tdiv_eq_ediv_of_nonneg (by omega), wrap_in (n := ((s.length : Nat) : Int) / 8) (by omega) (by omega), wrap_in (by omega) (by omega)]; omega
  rw [Ex.v_mk, ref03_ExprSize.eq, e1, sizeB]
  have key : ∀ i : Nat, i ≤ l.length → ∀ n : Int, 0 ≤ n → n ≤ most + 17592186044417 → ref03_ExprSize.L1_1_0_1_0 most n (i : Int) k (B s) m (l.map Ex.v) = some ⟨.ret (.int .i64 (sizesB (l.drop i) most n)), [], none⟩ := by
    refine down (fun n _ _ => ?_) fun i hi ihi n hn hn2 => ?_
    · rw [ref03_ExprSize.L1_1_0_1_0_eq, List.length_map, decide_eq_false (Int.lt_irrefl _), cond_false, List.drop_length, sizesB]
    · have hmem := List.getElem_mem hi
      rw [ref03_ExprSize.L1_1_0_1_0_eq, List.length_map, decide_eq_true (show (i : Int) < (l.length : Int) by omega), cond_true, List.drop_eq_getElem_cons hi, sizesB]
      by_cases hc : n ≤ most
      · have h3 := ih _ hmem (hok _ hmem) (most - n) (by omega) (by omega)
        have h4 := sizeB_le (hok _ hmem) (most - n)
        have h5 := h4.2 (by omega)
        have e2 : IntKind.wrap IntKind.i64 (most - n) = most - n := wrap_in (by omega) (by omega)
        rw [decide_eq_true hc, cond_true, if_pos (in_row hi), Int.toNat_natCast, map_at _ _ _ hi, if_pos hc]
        simp only [Ex.v_0, Ex.v_1, Ex.v_2, Ex.v_3, asInt_int, asStr_str, asSl_sl, Ex.v_agg, e2, h3, Option.bind_some, onRet_ret]
        rw [wrap_nat (by omega), wrap_in (by omega) (by omega)]
        exact ihi _ (by omega) (by omega)
      · rw [decide_eq_false hc, cond_false, if_neg hc]
  have := key 0 (Nat.zero_le _) (1 + ((s.length / 8 : Nat) : Int)) (by omega) (by omega)
  rw [List.drop_zero] at this
  exact this
/- What is not cut off is as great as it is. -/
mutual
theorem sizeB_eq : ∀ (x : Ex) (most : Int), sizeB x most ≤ most → sizeB x most = (x.size : Int)
  | .mk k s m l, most, h => by
    rw [sizeB] at h ⊢
    rw [sizesB_eq l most _ h, Ex.size]; omega
theorem sizesB_eq : ∀ (l : List Ex) (most n : Int), sizesB l most n ≤ most → sizesB l most n = n + (Ex.sizes l : Int)
  | [], most, n, h => by rw [sizesB, Ex.sizes]; omega
  | x :: l, most, n, h => by
    rw [sizesB] at h ⊢
    split at h
    · rename_i hn
      rw [if_pos hn]
      have h2 := sizesB_eq l most _ h
      rw [h2, Ex.sizes]
      rw [h2] at h
      have h3 := sizeB_eq x (most - n) (by omega)
      omega
    · omega
end
theorem law05_great_is (x : Ex) (hx : ExOk x) : ∃ b, den Sp law05_great.id [.agg x.v] [] none = some ⟨.ret (.bool b), [], none⟩ ∧ (b = false → x.size ≤ 1500) := by
  refine ⟨decide (sizeB x 1500 > 1500), ?_, fun h => ?_⟩
  · have h1 := ref03_ExprSize_at x hx 1500 (by omega) (by omega)
    rw [Ex.v_is] at h1 ⊢
    rw [law05_great.eq, h1]
    simp only [Option.bind_some, onRet_ret, asInt_int]
  · have h1 : sizeB x 1500 ≤ 1500 := by have := of_decide_eq_false h; omega
    have h2 := sizeB_eq x 1500 h1
    omega
end Go.Proofs.Ytipjanijidbelaa
