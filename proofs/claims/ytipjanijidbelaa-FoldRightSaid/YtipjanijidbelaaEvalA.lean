/- Values of names; what an expression is worth by the program and by the reference. Own work. -/
import Derived.Test.YtipjanijidbelaaFoldA
namespace Go.Proofs.Ytipjanijidbelaa
open Go Go.Proofs.Ab Go.Proofs.Px
set_option linter.unusedVariables false
set_option linter.unusedSimpArgs false
set_option maxRecDepth 100000

/-- Values of names; a row of numbers may be nil (true). -/
structure Ev where
  names : List (List UInt8)
  vz : Bool
  vals : List Int
  lists : List (Bool × List Int)
def lv (l : List (Bool × List Int)) : List (List V) := l.map fun p => [.sl (tkz p.1) T_int64 (iv p.2)]
@[simp] theorem lv_len (l : List (Bool × List Int)) : (lv l).length = l.length := by simp [lv]
theorem lv_at (l : List (Bool × List Int)) (i : Nat) (h : i < l.length) : List.getD (List.getD (lv l) i []) 0 V.undef = .sl (tkz l[i].1) T_int64 (iv l[i].2) := by
  unfold lv
  rw [map_at _ _ _ h]; rfl
def Ev.v (e : Ev) : List V := [.sl .no T_string (sv e.names), .sl (tkz e.vz) T_int64 (iv e.vals), .sl .no T_L_int64 (lv e.lists)]
structure EvOk (e : Ev) : Prop where
  names : e.names.length < 4611686018427387904
  vals : ∀ n ∈ e.vals, i64 n
  lists : ∀ p ∈ e.lists, (p.1 = true → p.2 = []) ∧ ∀ n ∈ p.2, i64 n
/-- What is at a place; where a name stands. -/
def Ev.at (e : Ev) (i : Nat) : Int × Bool × List Int := (e.vals.getD i 0, e.lists.getD i (true, []))
def whereIs (s : List UInt8) : List (List UInt8) → Nat → Option Nat
  | [], _ => none
  | a :: l, i => if a = s then some i else whereIs s l (i + 1)
theorem whereIs_cons (s a : List UInt8) (l : List (List UInt8)) (i : Nat) : whereIs s (a :: l) i = if a = s then some i else whereIs s l (i + 1) := rfl
theorem whereIs_lt {s : List UInt8} : ∀ {l : List (List UInt8)} {i j : Nat}, whereIs s l i = some j → i ≤ j ∧ j < i + l.length
  | [], i, j, h => by cases h
  | a :: l, i, j, h => by
    unfold whereIs at h
    split at h
    · cases h; simp
    · have := whereIs_lt h
      simp only [List.length_cons]; omega
def Ev.value (e : Ev) (s : List UInt8) : Int × Bool × List Int := match whereIs s e.names 0 with | some i => e.at i | none => (0, true, [])
theorem getD_in {α : Type} (l : List α) (i : Nat) (d : α) (h : i < l.length) : l.getD i d = l[i] := by rw [List.getD_eq_getElem?_getD, List.getElem?_eq_getElem h]; rfl
theorem getD_out {α : Type} (l : List α) (i : Nat) (d : α) (h : l.length ≤ i) : l.getD i d = d := by rw [List.getD_eq_getElem?_getD, List.getElem?_eq_none h]; rfl
theorem Ev.at_ok {e : Ev} (h : EvOk e) (i : Nat) : i64 (e.at i).1 ∧ ((e.at i).2.1 = true → (e.at i).2.2 = []) ∧ ∀ n ∈ (e.at i).2.2, i64 n := by
  unfold Ev.at
  refine ⟨?_, ?_⟩
  · by_cases hi : i < e.vals.length
    · rw [getD_in _ _ _ hi]; exact h.vals _ (List.getElem_mem hi)
    · rw [getD_out _ _ _ (by omega)]; unfold i64; omega
  · by_cases hi : i < e.lists.length
    · rw [getD_in _ _ _ hi]; exact h.lists _ (List.getElem_mem hi)
    · rw [getD_out e.lists _ _ (by omega)]; exact ⟨fun _ => rfl, fun n hn => by cases hn⟩
theorem Ev.value_ok {e : Ev} (h : EvOk e) (s : List UInt8) : i64 (e.value s).1 ∧ ((e.value s).2.1 = true → (e.value s).2.2 = []) ∧ ∀ n ∈ (e.value s).2.2, i64 n := by
  unfold Ev.value
  split
  · exact Ev.at_ok h _
  · exact ⟨by unfold i64; omega, fun _ => rfl, fun n hn => by cases hn⟩
/-- A number and a row of numbers, as an answer. -/
def valV (p : Int × Bool × List Int) : Option Res := some ⟨.ret (.tup [.int .i64 p.1, .sl (tkz p.2.1) T_int64 (iv p.2.2)]), [], none⟩
theorem bif_tok (z : Bool) (n : Int) (es : List (List V)) : (bif z then some (Res.mk (.ret (.tup [.int .i64 n, .sl Tok.nil T_int64 es])) [] none) else some ⟨.ret (.tup [.int .i64 n, .sl Tok.nn T_int64 es]), [], none⟩) = some ⟨.ret (.tup [.int .i64 n, .sl (tkz z) T_int64 es]), [], none⟩ := by cases z <;> rfl
theorem fold_value_is (e : Ev) (s : List UInt8) (h : EvOk e) : den Sp fold_Env_value.id [.agg e.v, .str (B s)] [] none = valV (e.value s) := by
  unfold Ev.v
  rw [fold_Env_value.eq]
  have hn := h.names
  have c2 : List.contains [2] 2 = true := rfl
  rw [c2, tokOf_tkz, sv_len]
  have key : ∀ i : Nat, i ≤ e.names.length → fold_Env_value.L1_0_1_0 (B s) (sv e.names) (e.names.length : Int) (i : Int) (sv e.names) (tkz e.vz) (iv e.vals) (lv e.lists) = valV (match whereIs s (e.names.drop i) i with | some i => e.at i | none => (0, true, [])) := by
    refine down ?_ fun i hi ih => ?_
    · rw [fold_Env_value.L1_0_1_0_eq, decide_eq_false (Int.lt_irrefl _), cond_false, List.drop_length]; rfl
    · rw [fold_Env_value.L1_0_1_0_eq, decide_eq_true (show (i : Int) < (e.names.length : Int) by omega), cond_true, sv_len, if_pos (in_row hi), Int.toNat_natCast, sv_at _ _ hi, asStr_str, c2, tokOf_tkz, wrap_nat (by omega), ih, List.drop_eq_getElem_cons hi, B_dec]
      rw [whereIs_cons]
      by_cases hs : e.names[i] = s
      · rw [if_pos hs, decide_eq_true hs, Bool.not_true, cond_false]
        rw [iv_len, lv_len]
        show _ = valV (e.vals.getD i 0, e.lists.getD i (true, []))
        by_cases h1 : i < e.vals.length
        · rw [decide_eq_true (show (i : Int) < (e.vals.length : Int) by omega), cond_true, if_pos (in_row h1), iv_at _ _ h1, asInt_int, getD_in _ _ _ h1]
          by_cases h2 : i < e.lists.length
          · rw [decide_eq_true (show (i : Int) < (e.lists.length : Int) by omega), cond_true, if_pos (in_row h2), Nat.zero_add, lv_at _ _ h2, asSlN_tkz, getD_in _ _ _ h2]
            exact bif_tok ..
          · rw [decide_eq_false (show ¬ (i : Int) < (e.lists.length : Int) by omega), cond_false, getD_out _ _ _ (by omega)]; rfl
        · rw [decide_eq_false (show ¬ (i : Int) < (e.vals.length : Int) by omega), cond_false, getD_out e.vals _ _ (by omega)]
          by_cases h2 : i < e.lists.length
          · rw [decide_eq_true (show (i : Int) < (e.lists.length : Int) by omega), cond_true, if_pos (in_row h2), Nat.zero_add, lv_at _ _ h2, asSlN_tkz, getD_in _ _ _ h2]
            exact bif_tok ..
          · rw [decide_eq_false (show ¬ (i : Int) < (e.lists.length : Int) by omega), cond_false, getD_out _ _ _ (by omega)]; rfl
      · rw [if_neg hs, decide_eq_false hs, Bool.not_false, cond_true]
  exact key 0 (Nat.zero_le _)
def placeI (s : List UInt8) (l : List (List UInt8)) : Int := match whereIs s l 0 with | some i => (i : Int) | none => -1
theorem ref05_place_is (s : List UInt8) (l : List (List UInt8)) (h : l.length < 4611686018427387904) : den Sp ref05_place.id [.sl .no T_string (sv l), .str (B s)] [] none = some ⟨.ret (.int .i64 (placeI s l)), [], none⟩ := by
  rw [ref05_place.eq]
  have key : ∀ i : Nat, i ≤ l.length → ref05_place.L1_0_1_0 (sv l) (B s) (i : Int) = some ⟨.ret (.int .i64 (match whereIs s (l.drop i) i with | some i => (i : Int) | none => -1)), [], none⟩ := by
    refine down ?_ fun i hi ih => ?_
    · rw [ref05_place.L1_0_1_0_eq, sv_len, decide_eq_false (Int.lt_irrefl _), cond_false, List.drop_length]; rfl
    · rw [ref05_place.L1_0_1_0_eq, sv_len, decide_eq_true (show (i : Int) < (l.length : Int) by omega), cond_true, if_pos (in_row hi), Int.toNat_natCast, sv_at _ _ hi, asStr_str, wrap_nat (by omega), ih, List.drop_eq_getElem_cons hi, B_dec]
      rw [whereIs_cons]
      by_cases hs : l[i] = s
      · rw [if_pos hs, decide_eq_true hs, cond_true]
      · rw [if_neg hs, decide_eq_false hs, cond_false]
  exact key 0 (Nat.zero_le _)
theorem ref05_list_is (e : Ev) (s : List UInt8) (h : EvOk e) : den Sp ref05_list.id [.agg e.v, .str (B s)] [] none =
    some ⟨.ret (.tup [.sl (tkz (e.value s).2.1) T_int64 (iv (e.value s).2.2), .bool (!(e.value s).2.1)]), [], none⟩ := by
  unfold Ev.v
  rw [ref05_list.eq, ref05_place_is _ _ h.names]
  simp only [Option.bind_some, onRet_ret, asInt_int, lv_len]
  unfold placeI Ev.value
  cases hw : whereIs s e.names 0 with
  | none => rfl
  | some i =>
    have hi := whereIs_lt hw
    show _ = some (Res.mk (.ret (.tup [.sl (tkz (e.lists.getD i (true, [])).1) T_int64 (iv (e.lists.getD i (true, [])).2), .bool (!(e.lists.getD i (true, [])).1)])) [] none)
    rw [decide_eq_false (show ¬ (i : Int) < 0 by omega), cond_false]
    by_cases h2 : i < e.lists.length
    · have hz := (h.lists _ (List.getElem_mem h2)).1
      rw [decide_eq_false (show ¬ (i : Int) ≥ (e.lists.length : Int) by omega), cond_false, if_pos (in_row h2), if_pos (in_row h2), Int.toNat_natCast, Nat.zero_add, lv_at _ _ h2, asSlN_tkz, getD_in _ _ _ h2]
      cases hz2 : e.lists[i].1 with
      | true => rw [cond_true, hz hz2]; rfl
      | false => rw [cond_false, tkz_false, asSlN_nn]; rfl
    · rw [decide_eq_true (show (i : Int) ≥ (e.lists.length : Int) by omega), cond_true, getD_out _ _ _ (by omega)]; rfl
/-- What an expression is worth, if its parts are worth so much. -/
def worthK (e : Ev) (k : Int) (s : List UInt8) (m : Int) (n : Nat) (rs : List (Int × Int)) : Int × Int :=
  if builtP k s m n = false then (0, 0)
  else if k = 1 ∨ k = 2 then (m, 0)
  else if k = 3 then (if (e.value s).2.1 then (e.value s).1 else 0, 0)
  else
    let a := rs.getD 0 (0, 0)
    if a.2 ≠ 0 then (0, a.2)
    else if k = 4 then (if 0 ≤ a.1 ∧ a.1 < ((e.value s).2.2.length : Int) then ((e.value s).2.2.getD a.1.toNat 0, 0) else (0, 2))
    else if k = 5 then (if s = [33] then (truthI (decide (a.1 = 0)), 0) else (IntKind.i64.wrap (-a.1), 0))
    else if s = [38, 38] ∧ a.1 = 0 then (0, 0)
    else if s = [124, 124] ∧ a.1 ≠ 0 then (1, 0)
    else
      let b := rs.getD 1 (0, 0)
      if b.2 ≠ 0 then (0, b.2) else twoR s a.1 b.1
mutual
def worth (e : Ev) : Ex → Int × Int
  | .mk k s m l => worthK e k s m l.length (worths e l)
def worths (e : Ev) : List Ex → List (Int × Int)
  | [] => []
  | x :: l => worth e x :: worths e l
end
theorem truthI_in (b : Bool) : i64 (truthI b) := by unfold truthI i64; cases b <;> simp
theorem tmod_in {a b : Int} (ha : i64 a) : i64 (a.tmod b) := by
  unfold i64 at *
  have h3 : (a.tmod b).natAbs ≤ a.natAbs := by rw [Int.natAbs_tmod]; exact Nat.mod_le ..
  by_cases h : a < 0
  · have h4 := Int.tmod_nonneg (a := -a) b (by omega)
    rw [Int.neg_tmod] at h4
    omega
  · have h4 := Int.tmod_nonneg (a := a) b (by omega)
    omega
theorem twoP_in (s : List UInt8) (a b : Int) (ha : i64 a) : i64 (twoP s a b).1 := by
  unfold twoP
  have z : i64 0 := by unfold i64; omega
  repeat' split
  all_goals first | exact wrap_i64_in _ | exact z | exact tmod_in ha | exact truthI_in _
theorem twoR_in (s : List UInt8) (a b : Int) (ha : i64 a) : i64 (twoR s a b).1 := by
  unfold twoR
  split
  · exact truthI_in _
  · exact twoP_in s a b ha
theorem worthK_in {e : Ev} (he : EvOk e) (k : Int) (s : List UInt8) (m : Int) (n : Nat) (rs : List (Int × Int)) (hm : i64 m) (hr : ∀ r ∈ rs, i64 r.1) : i64 (worthK e k s m n rs).1 := by
  have z : i64 0 := by unfold i64; omega
  have hv := Ev.value_ok he s
  have h0 : ∀ i, i64 (rs.getD i (0, 0)).1 := fun i => by
    by_cases hi : i < rs.length
    · rw [getD_in _ _ _ hi]; exact hr _ (List.getElem_mem hi)
    · rw [getD_out _ _ _ (by omega)]; exact z
  unfold worthK
  dsimp only
  repeat' split
  all_goals first | exact z | exact hm | exact hv.1 | exact truthI_in _ | exact wrap_i64_in _ | exact twoR_in _ _ _ (h0 0) | (show i64 1; unfold i64; omega) | skip
  · rename_i h1
    rw [getD_in _ _ _ (by omega)]
    exact hv.2.2 _ (List.getElem_mem _)
mutual
theorem worth_in {e : Ev} (he : EvOk e) : ∀ {x : Ex}, ExOk x → i64 (worth e x).1
  | .mk k s m l, h => by
    obtain ⟨_, _, hm, _, hl⟩ := h.inv
    rw [worth]
    exact worthK_in he _ _ _ _ _ (i64_wf hm) (worths_in he hl)
theorem worths_in {e : Ev} (he : EvOk e) : ∀ {l : List Ex}, (∀ x ∈ l, ExOk x) → ∀ r ∈ worths e l, i64 r.1
  | [], h, r, hr => by rw [worths] at hr; cases hr
  | x :: l, h, r, hr => by
    rw [worths] at hr
    rcases List.mem_cons.1 hr with rfl | hr
    · exact worth_in he (h _ (List.mem_cons_self ..))
    · exact worths_in he (fun y hy => h y (List.mem_cons_of_mem _ hy)) r hr
end
/-- What is known of one that is built. -/
theorem built_forms {k : Int} {s : List UInt8} {m : Int} {n : Nat} (h : builtP k s m n = true) :
    (k = 1 ∧ n = 0) ∨ (k = 2 ∧ n = 0) ∨ (k = 3 ∧ n = 0) ∨ (k = 4 ∧ n = 1) ∨ (k = 5 ∧ n = 1 ∧ (s = [45] ∨ s = [33])) ∨ (k = 6 ∧ n = 2 ∧ s ∈ binSigns) := by
  unfold builtP partsK signOk at h
  simp only [Bool.and_eq_true, decide_eq_true_eq] at h
  obtain ⟨⟨h1, h2⟩, _⟩ := h
  by_cases a1 : k = 1
  · subst a1; simp at h1; omega
  by_cases a2 : k = 2
  · subst a2; simp at h1; omega
  by_cases a3 : k = 3
  · subst a3; simp at h1; omega
  by_cases a4 : k = 4
  · subst a4; simp at h1; omega
  by_cases a5 : k = 5
  · subst a5; simp at h1 h2
    exact .inr (.inr (.inr (.inr (.inl ⟨rfl, by omega, h2⟩))))
  by_cases a6 : k = 6
  · subst a6; simp at h1 h2
    exact .inr (.inr (.inr (.inr (.inr ⟨rfl, by omega, h2⟩))))
  · simp [a1, a2, a3, a4, a5, a6] at h1
def retII (p : Int × Int) : Option Res := some ⟨.ret (.tup [.int .i64 p.1, .int .i64 p.2]), [], none⟩
theorem retII_is (p : Int × Int) : retII p = some ⟨.ret (.tup [.int .i64 p.1, .int .i64 p.2]), [], none⟩ := rfl
theorem worths_len (e : Ev) : ∀ l : List Ex, (worths e l).length = l.length
  | [] => rfl
  | x :: l => by rw [worths, List.length_cons, worths_len e l, List.length_cons]
theorem two_of {α : Type} {l : List α} (h : l.length = 2) : ∃ y z, l = [y, z] := by
  match l, h with
  | [y, z], _ => exact ⟨y, z, rfl⟩
theorem getD0 {α : Type} (a : α) (l : List α) (d : α) : (a :: l).getD 0 d = a := rfl
theorem getD1 {α : Type} (a b : α) (l : List α) (d : α) : (a :: b :: l).getD 1 d = b := rfl
theorem fold_Eval_is (e : Ev) (he : EvOk e) : ∀ x : Ex, ExOk x → den Sp fold_Eval.id [.agg x.v, .agg e.v] [] none = retII (worth e x) := by
  refine Ex.ind fun k s m l ih hx => ?_
  obtain ⟨hk, hs, hm, hl, hok⟩ := hx.inv
  have ih' : ∀ y ∈ l, den Sp fold_Eval.id [.agg [.int .i64 y.kind, .str (B y.name), .int .i64 y.num, .sl .no T_api_Expr (y.l.map Ex.v)], .agg [.sl .no T_string (sv e.names), .sl (tkz e.vz) T_int64 (iv e.vals), .sl .no T_L_int64 (lv e.lists)]] [] none = retII (worth e y) := fun y hy => by
    rw [Ex.v_agg]; exact ih y hy (hok y hy)
  have hval := fold_value_is e s he
  unfold Ev.v at hval
  have c2 : List.contains [2] 2 = true := rfl
  unfold Ev.v
  rw [Ex.v_mk, fold_Eval.eq, fold_built_is, c2, tokOf_tkz, hval, worth]
  unfold worthK
  have hvk := Ev.value_ok he s
  simp only [Option.bind_some, onRet_ret, asBool_bool, List.length_map, int_beq]
  cases hb : builtP k s m l.length with
  | false => simp [retII]
  | true =>
    rw [if_neg (fun h => Bool.noConfusion h), Bool.not_true, cond_false]
    rcases built_forms hb with ⟨rfl, h⟩ | ⟨rfl, h⟩ | ⟨rfl, h⟩ | ⟨rfl, h⟩ | ⟨rfl, h, h5⟩ | ⟨rfl, h, h6⟩
    · simp [retII]
    · simp [retII]
    · unfold valV
      cases hz : (e.value s).2.1 <;> simp [retII, hz]
    · obtain ⟨y, rfl⟩ := List.length_eq_one_iff.1 h
      have hy := ih' y (List.mem_singleton_self y)
      simp only [List.map_cons, List.map_nil, List.length_cons, List.length_nil, getD0, Ex.v_0, Ex.v_1, Ex.v_2, Ex.v_3, asInt_int, asStr_str, asSl_sl, hy, worths]
      unfold valV
      obtain ⟨a, t, hr⟩ : ∃ a t, worth e y = (a, t) := ⟨_, _, rfl⟩
      by_cases ht : t = 0
      · subst ht
        obtain ⟨_, hz, _⟩ := hvk
        cases hz2 : (e.value s).2.1 with
        | true =>
          rw [hz hz2]
          by_cases ha : a < 0
          · have : ¬ (0 ≤ a) := by omega
            simp [hr, retII, ha, this]
          · have h1 : ¬ (a < 0) := ha
            have : 0 ≤ a := by omega
            simp [hr, retII, this, h1]
        | false =>
          by_cases ha : a < 0
          · have : ¬ (0 ≤ a) := by omega
            simp [hr, retII, ha, this]
          · have h1 : 0 ≤ a := by omega
            obtain ⟨i, rfl⟩ := Int.eq_ofNat_of_zero_le h1
            by_cases h2 : i < (e.value s).2.2.length
            · have h3 : ¬ (e.value s).2.2.length ≤ i := by omega
              have h4 := iv_at (e.value s).2.2 i h2
              rw [← getD_in _ _ 0 h2] at h4
              simp [hr, retII, h2, h3, ha, iv]
            · have h3 : (e.value s).2.2.length ≤ i := by omega
              simp [hr, retII, h2, h3, ha]
      · simp [hr, retII, ht]
    · obtain ⟨y, rfl⟩ := List.length_eq_one_iff.1 h
      have hy := ih' y (List.mem_singleton_self y)
      simp only [List.map_cons, List.map_nil, List.length_cons, List.length_nil, getD0, Ex.v_0, Ex.v_1, Ex.v_2, Ex.v_3, asInt_int, asStr_str, asSl_sl, hy, worths, fold_truth_is, num_Neg_is]
      obtain ⟨a, t, hr⟩ : ∃ a t, worth e y = (a, t) := ⟨_, _, rfl⟩
      by_cases ht : t = 0
      · subst ht
        rcases h5 with rfl | rfl <;> simp [hr, retII]
      · simp [hr, retII, ht]
    · obtain ⟨y, z, rfl⟩ := two_of h
      have hy := ih' y (List.mem_cons_self ..)
      have hz := ih' z (List.mem_cons_of_mem _ (List.mem_singleton_self z))
      simp only [List.map_cons, List.map_nil, List.length_cons, List.length_nil, getD0, getD1, Ex.v_0, Ex.v_1, Ex.v_2, Ex.v_3, asInt_int, asStr_str, asSl_sl, hy, hz, worths, fold_truth_is, num_Neg_is, fold_two_is]
      obtain ⟨a, t, hr⟩ : ∃ a t, worth e y = (a, t) := ⟨_, _, rfl⟩
      obtain ⟨b, u, hq⟩ : ∃ a t, worth e z = (a, t) := ⟨_, _, rfl⟩
      have n33 : ¬ s = [33] := by rintro rfl; revert h6; decide
      by_cases ht : t = 0
      · subst ht
        by_cases hu : u = 0
        · subst hu
          by_cases s1 : s = [38, 38]
          · subst s1
            by_cases ha : a = 0 <;> simp [hr, hq, retII, ha, twoR]
          · by_cases s2 : s = [124, 124]
            · subst s2
              by_cases ha : a = 0 <;> simp [hr, hq, retII, ha, twoR]
            · simp [hr, hq, retII, s1, s2, n33, twoR]
        · by_cases s1 : s = [38, 38]
          · subst s1
            by_cases ha : a = 0 <;> simp [hr, hq, retII, ha, hu, twoR]
          · by_cases s2 : s = [124, 124]
            · subst s2
              by_cases ha : a = 0 <;> simp [hr, hq, retII, ha, hu, twoR]
            · simp [hr, hq, retII, s1, s2, hu, n33, twoR]
      · simp [hr, hq, retII, ht]
end Go.Proofs.Ytipjanijidbelaa
