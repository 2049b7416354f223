/- LexPrints: any tokens are printed alike, or refused. Own work. -/
import Derived.Test.YtenpcpfkiniggaaDoorLexR
import Derived.Test.YtenpcpfkiniggaaDoorKnA
namespace Go.Proofs.YtenpcpfkiniggaaDoor
open Go Go.Proofs.Ab Go.Proofs.Px
set_option linter.unusedVariables false
set_option linter.unusedSimpArgs false

theorem asStr_at0 (s : ByteArray) (b : V) (k : ByteArray → Option Res) : V.asStr ([V.str s, b].getD 0 .undef) k = k s := rfl
/-- The words that tokens are written as. -/
def wordsL (l : List Tk) : List (List UInt8) := (l.take (l.length - 1)).map wrT
theorem wordsL_len (l : List Tk) : (wordsL l).length = l.length - 1 := by simp [wordsL]
theorem wordsL_at (l : List Tk) (i : Nat) (h : i < l.length - 1) : (wordsL l)[i]'(by rw [wordsL_len]; exact h) = wrT (l[i]'(by omega)) := by
  unfold wordsL
  rw [List.getElem_map, List.getElem_take]
theorem wrT_len (t : Tk) : 1 + (wrT t).length ≤ 22 * (1 + t.text.length) := by
  unfold wrT
  split
  · have := decs_len t.num
    omega
  · omega
theorem words_weight : ∀ (l : List Tk), weighW (l.map wrT) ≤ 22 * weigh l
  | [] => Nat.le_refl _
  | t :: l => by
    have h1 := words_weight l
    have h2 := wrT_len t
    have h3 : weighW ((t :: l).map wrT) = 1 + (wrT t).length + weighW (l.map wrT) := by simp [weighW]
    rw [h3, weigh_cons, Nat.mul_add]
    omega
theorem weigh_take (l : List Tk) (i : Nat) : weigh (l.take i) ≤ weigh l := by
  have h : weigh l = weigh (l.take i) + weigh (l.drop i) := by
    unfold weigh
    rw [← List.sum_append, ← List.map_append, List.take_append_drop]
  omega
theorem wordsL_weight (l : List Tk) : weighW (wordsL l) ≤ 22 * weigh l := by
  have h1 := words_weight (l.take (l.length - 1))
  have h2 := weigh_take l (l.length - 1)
  unfold wordsL
  omega
theorem right_ok {l : List Tk} (h : rightL l = true) : ∀ i, (hi : i + 1 < l.length) → wrOk (l[i]'(by omega)) = true ∧ rightL (l.drop (i + 1)) = true := by
  have h0 : ∀ i, i < l.length → rightL (l.drop i) = true := by
    intro i
    induction i with
    | zero => intro _; rw [List.drop_zero]; exact h
    | succ i ih =>
      intro hi
      have h1 := ih (by omega)
      rw [rightL_drop (l := l) (i := i) hi, Bool.and_eq_true] at h1
      exact h1.2
  intro i hi
  have h1 := h0 i (by omega)
  rw [rightL_drop (l := l) (i := i) hi, Bool.and_eq_true] at h1
  exact h1
def printV (l : List Tk) : Option Res := if rightL l = true then some ⟨.ret (.tup [.str (B (joinL (wordsL l))), .int .i64 0]), [], none⟩ else some ⟨.ret (.tup [.str (B []), .int .i64 32]), [], none⟩
theorem sv_take (l : List (List UInt8)) (i : Nat) (h : i < l.length) : sv (l.take i) ++ [[.str (B (l[i]'h))]] = sv (l.take (i + 1)) := by
  rw [sv_app, List.take_succ_eq_append_getElem h]
theorem lex_Print_is (l : List Tk) (hl : weigh l ≤ 1000000000) (hk : ∀ t ∈ l, TkOk t) : den Sp lex_Print.id [.sl .no T_api_Token (l.map Tk.v)] [] none = printV l := by
  have hlw := weigh_len l
  have hww := wordsL_weight l
  rw [lex_Print.eq, lex_Right_is l (by omega) hk]
  simp only [Option.bind_some, onRet_ret, asBool_bool]
  unfold printV
  cases hr : rightL l with
  | false => rw [Bool.not_false, cond_true, if_neg (fun h => Bool.noConfusion h)]; rfl
  | true =>
    have hok := right_ok hr
    have hpos : 0 < l.length := by
      cases l with
      | nil => exact Bool.noConfusion hr
      | cons => simp
    have e3 : IntKind.wrap IntKind.i64 (((l.length : Nat) : Int) - 1) = ((l.length - 1 : Nat) : Int) := by rw [wrap_in (by omega) (by omega)]; omega
    have e4 : (0 : Int) ≤ ((l.length - 1 : Nat) : Int) := by omega
    have e5 : 0 ≤ l.length - 1 ∧ l.length - 1 ≤ l.length := ⟨Nat.zero_le _, Nat.sub_le ..⟩
    rw [Bool.not_true, cond_false, List.length_map, e3, if_pos e4, Int.toNat_natCast, if_pos e5, List.drop_zero, Nat.sub_zero, ← List.map_take, List.length_map, List.length_take, Nat.min_eq_left e5.2, if_pos rfl]
    generalize hm : l.take (l.length - 1) = m
    have hml : m.length = l.length - 1 := by rw [← hm, List.length_take, Nat.min_eq_left e5.2]
    have key : ∀ i : Nat, i ≤ l.length - 1 → lex_Print.L1_1_1_0_1_0 (sv ((wordsL l).take i)) (m.map Tk.v) ((l.length - 1 : Nat) : Int) (i : Int) = some ⟨.ret (.tup [.str (B (joinL (wordsL l))), .int .i64 0]), [], none⟩ := by
      refine down ?_ fun i hi ih => ?_
      · rw [lex_Print.L1_1_1_0_1_0_eq, decide_eq_false (Int.lt_irrefl _), cond_false, List.take_of_length_le (by rw [wordsL_len]; exact Nat.le_refl _), num_Join_is _ (by rw [wordsL_len]; omega) (by omega)]
        rfl
      · have hi2 : i < l.length := by omega
        have hi3 : i < m.length := by omega
        have hmi : m[i]'hi3 = l[i]'hi2 := by
          subst hm
          rw [List.getElem_take]
        have e1 : ((i : Int) < ((l.length - 1 : Nat) : Int)) := by omega
        have e2 : (0 : Int) ≤ (i : Int) ∧ ((i : Int) < ((m.length : Nat) : Int)) := ⟨by omega, by omega⟩
        obtain ⟨x, hx, hxt⟩ := lex_written_is (l[i]'hi2) (hk _ (List.getElem_mem hi2))
        have hx' : den Sp lex_written.id [(V.agg [(V.int IntKind.i64 (l[i]'hi2).kind), (V.str (B (l[i]'hi2).text)), (V.int IntKind.i64 (l[i]'hi2).num), (V.int IntKind.i64 (l[i]'hi2).at_)])] [] none = _ := hx
        have hxx := hxt (hok i (by omega)).1
        rw [← wordsL_at l i hi] at hxx
        subst hxx
        rw [lex_Print.L1_1_1_0_1_0_eq, List.length_map, decide_eq_true e1, cond_true, if_pos e2, Int.toNat_natCast, tkAt m i hi3, hmi, tk_0, tk_1, tk_2, tk_3, wrap_nat (by omega), hx']
        simp only [Option.bind_some, onRet_ret, tup2]
        rw [asStr_at0, bool_1, sv_len, List.length_take, Nat.min_eq_left (by rw [wordsL_len]; omega), if_pos (one_most (by omega)), sv_take]
        exact ih
    exact key 0 (Nat.zero_le _)
theorem ref02_Print_is (l : List Tk) (hl : weigh l ≤ 1000000000) (hk : ∀ t ∈ l, TkOk t) : den Sp ref02_Print.id [.sl .no T_api_Token (l.map Tk.v)] [] none = printV l := by
  have hlw := weigh_len l
  have hww := wordsL_weight l
  rw [ref02_Print.eq, ref02_Right_is l (by omega) hk]
  simp only [Option.bind_some, onRet_ret, asBool_bool]
  unfold printV
  cases hr : rightL l with
  | false => rw [Bool.not_false, cond_true, if_neg (fun h => Bool.noConfusion h)]; rfl
  | true =>
    have hok := right_ok hr
    have hpos : 0 < l.length := by
      cases l with
      | nil => exact Bool.noConfusion hr
      | cons => simp
    have e3 : IntKind.wrap IntKind.i64 (((l.length : Nat) : Int) - 1) = ((l.length - 1 : Nat) : Int) := by rw [wrap_in (by omega) (by omega)]; omega
    rw [Bool.not_true, cond_false, if_pos rfl]
    have key : ∀ i : Nat, i ≤ l.length - 1 → ref02_Print.L1_1_1_0_1_0 (l.map Tk.v) (sv ((wordsL l).take i)) (i : Int) = some ⟨.ret (.tup [.str (B (joinL (wordsL l))), .int .i64 0]), [], none⟩ := by
      refine down ?_ fun i hi ih => ?_
      · rw [ref02_Print.L1_1_1_0_1_0_eq, List.length_map, e3, decide_eq_false (Int.lt_irrefl _), cond_false, List.take_of_length_le (by rw [wordsL_len]; exact Nat.le_refl _), ref01_Join_is _ (by rw [wordsL_len]; omega) (by omega)]
        rfl
      · have hi2 : i < l.length := by omega
        have e1 : ((i : Int) < ((l.length - 1 : Nat) : Int)) := by omega
        have e2 : (0 : Int) ≤ (i : Int) ∧ ((i : Int) < ((l.length : Nat) : Int)) := ⟨by omega, by omega⟩
        obtain ⟨x, hx, hxt⟩ := ref02_Text_is (l[i]'hi2) (hk _ (List.getElem_mem hi2))
        have hx' : den Sp ref02_Text.id [(V.agg [(V.int IntKind.i64 (l[i]'hi2).kind), (V.str (B (l[i]'hi2).text)), (V.int IntKind.i64 (l[i]'hi2).num), (V.int IntKind.i64 (l[i]'hi2).at_)])] [] none = _ := hx
        have hxx := hxt (hok i (by omega)).1
        rw [← wordsL_at l i hi] at hxx
        subst hxx
        rw [ref02_Print.L1_1_1_0_1_0_eq, List.length_map, e3, decide_eq_true e1, cond_true, if_pos e2, Int.toNat_natCast, tkAt l i hi2, tk_0, tk_1, tk_2, tk_3, wrap_nat (by omega), hx']
        simp only [Option.bind_some, onRet_ret, tup2]
        rw [asStr_at0, bool_1, sv_len, List.length_take, Nat.min_eq_left (by rw [wordsL_len]; omega), if_pos (one_most (by omega)), sv_take]
        exact ih
    exact key 0 (Nat.zero_le _)
theorem token_in {cs : List V} (h : Fits Sp.P T_api_Token cs) : ∃ t : Tk, cs = t.v ∧ TkOk t := by
  obtain ⟨ps, rfl, hl, hf⟩ := fits_st (ts := [3, 9, 2, 3]) (by kernel_rfl) h
  match ps, hl with
  | [a, b, c, d], _ =>
    obtain ⟨n0, rfl, w0⟩ := fits_int (k := .i64) (by kernel_rfl) (hf 0 _ rfl)
    obtain ⟨s, rfl, w1⟩ := fits_str (by kernel_rfl) (hf 1 _ rfl)
    obtain ⟨n2, rfl, w2⟩ := fits_int (k := .i64) (by kernel_rfl) (hf 2 _ rfl)
    obtain ⟨n3, rfl, w3⟩ := fits_int (k := .i64) (by kernel_rfl) (hf 3 _ rfl)
    exact ⟨⟨n0, s, n2, n3⟩, rfl, w1, w0, w2, w3⟩
/-- Tokens that came in. -/
theorem tokens_in {x : V} (h : Fits Sp.P 22 [x]) : ∃ l : List Tk, x = .sl .no T_api_Token (l.map Tk.v) ∧ l.length ≤ 140737488351232 ∧ ∀ t ∈ l, TkOk t := by
  obtain ⟨es, he, hl, hm, hf⟩ := fits_sl (el := T_api_Token) (by kernel_rfl) h
  obtain ⟨l, rfl, hok⟩ := fits_rows (v := Tk.v) (fun cs => token_in) es hf
  refine ⟨l, List.cons.inj he |>.1, ?_, hok⟩
  rw [List.length_map] at hl
  have hb : Program.bytesOf Sp.P T_api_Token = 40 := by kernel_rfl
  rw [hb] at hl
  omega
theorem lexPrints_den (x : V) (h : Fits Sp.P 22 [x]) : den Sp law02_LexPrints.id [x] [] none = some ⟨.ret (.bool true), [], none⟩ := by
  obtain ⟨l, rfl, hl, hk⟩ := tokens_in h
  obtain ⟨b, hm, hb⟩ := law02_many_is l (by omega) hk
  rw [law02_LexPrints.eq, hm, law02_known_is]
  simp only [Option.bind_some, onRet_ret, asBool_bool]
  cases b with
  | true => rfl
  | false =>
    have hw := hb rfl
    rw [cond_false, lex_Print_is l (by omega) hk, ref02_Print_is l (by omega) hk, lex_Right_is l (by omega) hk, ref02_Right_is l (by omega) hk]
    unfold printV
    have tup_s : ∀ (s : ByteArray) (b : V) (k : ByteArray → Option Res), V.asStr ([V.str s, b].getD 0 .undef) k = k s := fun _ _ _ => rfl
    have tup_i : ∀ (a : V) (n : Int) (k : Int → Option Res), V.asInt ([a, V.int .i64 n].getD (0 + 1) .undef) .i64 k = k n := fun _ _ k => asInt_int _ _ k
    cases hr : rightL l with
    | true =>
      rw [if_pos rfl]
      simp only [Option.bind_some, onRet_ret, tup2, tup_s, tup_i, asBool_bool]
      simp only [decide_true, beq_self_eq_true, cond_true]
    | false =>
      rw [if_neg (fun h => Bool.noConfusion h)]
      simp only [Option.bind_some, onRet_ret, tup2, tup_s, tup_i, asBool_bool]
      simp only [decide_true, beq_self_eq_true, cond_true]
end Go.Proofs.YtenpcpfkiniggaaDoor
