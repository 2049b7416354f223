/- Rows of tokens: right, printed, weighed. Own work. -/
import Derived.Test.YtenpcpfkiniggaaDoorLexQ
namespace Go.Proofs.YtenpcpfkiniggaaDoor
open Go Go.Proofs.Ab Go.Proofs.Px
set_option linter.unusedVariables false
set_option linter.unusedSimpArgs false

theorem asStr_at0 (s : ByteArray) (b : V) (k : ByteArray → Option Res) : V.asStr ([V.str s, b].getD 0 .undef) k = k s := rfl
theorem tkAt (l : List Tk) (i : Nat) (h : i < l.length) : (l.map Tk.v).getD i [] = (l[i]'h).v := by
  rw [List.getD_eq_getElem?_getD, List.getElem?_map, List.getElem?_eq_getElem h]; rfl
/-- How heavy a row of tokens is. -/
def weigh (l : List Tk) : Nat := (l.map fun t => 1 + t.text.length).sum
theorem weigh_cons (t : Tk) (l : List Tk) : weigh (t :: l) = 1 + t.text.length + weigh l := by simp [weigh]
theorem weigh_len (l : List Tk) : l.length ≤ weigh l := by
  induction l with
  | nil => exact Nat.zero_le _
  | cons t l ih => rw [weigh_cons, List.length_cons]; omega
theorem ref02_Size_is (l : List Tk) (hl : l.length < 4611686018427387904) (hk : ∀ t ∈ l, TkOk t) : ∃ r : Int, den Sp ref02_Size.id [.sl .no T_api_Token (l.map Tk.v), .int .i64 6000] [] none = some ⟨.ret (.int .i64 r), [], none⟩ ∧ (r ≤ 6000 → weigh l ≤ 6000) := by
  rw [ref02_Size.eq]
  have key : ∀ i : Nat, i ≤ l.length → ∀ n : Nat, n ≤ 140737488361232 → ∃ r : Int, ref02_Size.L1_1_0_1_0 (l.map Tk.v) 6000 (n : Int) (i : Int) = some ⟨.ret (.int .i64 r), [], none⟩ ∧ (r ≤ 6000 → n + weigh (l.drop i) ≤ 6000) := by
    refine down (fun n hn => ?_) fun i hi ih n hn => ?_
    · refine ⟨n, ?_, fun h => ?_⟩
      · rw [ref02_Size.L1_1_0_1_0_eq, List.length_map, decide_eq_false (Int.lt_irrefl _), cond_false]
      · rw [List.drop_length, weigh, List.map_nil, List.sum_nil]; omega
    · have e1 : ((i : Int) < ((l.length : Nat) : Int)) := by omega
      have e2 : (0 : Int) ≤ (i : Int) ∧ ((i : Int) < ((l.length : Nat) : Int)) := ⟨by omega, e1⟩
      have ht := (hk _ (List.getElem_mem hi)).text
      rw [ref02_Size.L1_1_0_1_0_eq, List.length_map, decide_eq_true e1, cond_true, if_pos e2, Int.toNat_natCast, tkAt l i hi, tk_1, B_size, wrap_nat (i := i) (by omega)]
      by_cases h : (n : Int) ≤ 6000
      · have e3 : IntKind.wrap IntKind.i64 ((IntKind.wrap IntKind.i64 ((n : Int) + 1)) + (((l[i]'hi).text.length : Nat) : Int)) = ((n + 1 + (l[i]'hi).text.length : Nat) : Int) := by
          rw [wrap_in (n := (n : Int) + 1) (by omega) (by omega), wrap_in (by omega) (by omega)]; omega
        rw [decide_eq_true h, cond_true, e3]
        obtain ⟨r, h1, h2⟩ := ih (n + 1 + (l[i]'hi).text.length) (by omega)
        refine ⟨r, h1, fun hr => ?_⟩
        have := h2 hr
        rw [List.drop_eq_getElem_cons hi, weigh_cons]; omega
      · rw [decide_eq_false h, cond_false]
        exact ⟨n, rfl, fun h' => by omega⟩
  obtain ⟨r, h1, h2⟩ := key 0 (Nat.zero_le _) 0 (by omega)
  exact ⟨r, h1, fun h => by simpa using h2 h⟩
theorem law02_many_is (l : List Tk) (hl : l.length < 4611686018427387904) (hk : ∀ t ∈ l, TkOk t) : ∃ b : Bool, den Sp law02_many.id [.sl .no T_api_Token (l.map Tk.v)] [] none = some ⟨.ret (.bool b), [], none⟩ ∧ (b = false → weigh l ≤ 6000) := by
  obtain ⟨r, h1, h2⟩ := ref02_Size_is l hl hk
  rw [law02_many.eq, h1]
  simp only [Option.bind_some, onRet_ret, asInt_int]
  refine ⟨_, rfl, fun h => h2 ?_⟩
  have := of_decide_eq_false h
  omega
theorem rightL_drop {l : List Tk} {i : Nat} (h : i + 1 < l.length) : rightL (l.drop i) = (wrOk (l[i]'(by omega)) && rightL (l.drop (i + 1))) := by
  rw [List.drop_eq_getElem_cons (show i < l.length by omega)]
  cases hd : l.drop (i + 1) with
  | nil =>
    have := congrArg List.length hd
    rw [List.length_drop, List.length_nil] at this; omega
  | cons u r => rfl
theorem rightL_last {l : List Tk} {i : Nat} (h : i + 1 = l.length) : rightL (l.drop i) = endT (l[i]'(by omega)) := by
  rw [List.drop_eq_getElem_cons (show i < l.length by omega), List.drop_eq_nil_of_le (by omega)]
  rfl
theorem end_ret (t : Tk) : (bif (t.kind == (0 : Int)) then (bif (decide (B t.text = B [])) then (some (Res.mk (Out.ret (V.bool (t.num == (0 : Int)))) [] none)) else (some (Res.mk (Out.ret (V.bool Bool.false)) [] none))) else (some (Res.mk (Out.ret (V.bool Bool.false)) [] none))) = some ⟨.ret (.bool (endT t)), [], none⟩ := by
  unfold endT
  rw [beq_dec, beq_dec, B_dec]
  cases decide (t.kind = 0) <;> cases decide (t.text = []) <;> rfl
theorem lex_Right_is (l : List Tk) (hl : l.length < 4611686018427387904) (hk : ∀ t ∈ l, TkOk t) : den Sp lex_Right.id [.sl .no T_api_Token (l.map Tk.v)] [] none = some ⟨.ret (.bool (rightL l)), [], none⟩ := by
  rw [lex_Right.eq, List.length_map]
  have key : ∀ i : Nat, i ≤ l.length → lex_Right.L1_0_1_0 (l.map Tk.v) (l.map Tk.v) (l.length : Int) (i : Int) = some ⟨.ret (.bool (rightL (l.drop i))), [], none⟩ := by
    refine down ?_ fun i hi ih => ?_
    · rw [lex_Right.L1_0_1_0_eq, decide_eq_false (Int.lt_irrefl _), cond_false, List.drop_length]; rfl
    · have e1 : ((i : Int) < ((l.length : Nat) : Int)) := by omega
      have e2 : (0 : Int) ≤ (i : Int) ∧ ((i : Int) < ((l.length : Nat) : Int)) := ⟨by omega, e1⟩
      have e3 : IntKind.wrap IntKind.i64 (((l.length : Nat) : Int) - 1) = ((l.length - 1 : Nat) : Int) := by rw [wrap_in (by omega) (by omega)]; omega
      rw [lex_Right.L1_0_1_0_eq, List.length_map, decide_eq_true e1, cond_true, if_pos e2, Int.toNat_natCast, tkAt l i hi, tk_0, tk_1, tk_2, tk_3, wrap_nat (by omega), ih, e3]
      by_cases h : i + 1 = l.length
      · rw [beq_iff_eq.2 (show ((i : Nat) : Int) = ((l.length - 1 : Nat) : Int) by omega), cond_true, rightL_last h, B_nil]
        exact end_ret _
      · rw [beq_eq_false_iff_ne.2 (show ((i : Nat) : Int) ≠ ((l.length - 1 : Nat) : Int) by omega), cond_false, rightL_drop (l := l) (i := i) (by omega)]
        obtain ⟨x, hx, _⟩ := lex_written_is (l[i]'hi) (hk _ (List.getElem_mem hi))
        have hx' : den Sp lex_written.id [(V.agg [(V.int IntKind.i64 (l[i]'hi).kind), (V.str (B (l[i]'hi).text)), (V.int IntKind.i64 (l[i]'hi).num), (V.int IntKind.i64 (l[i]'hi).at_)])] [] none = _ := hx
        rw [hx']
        simp only [Option.bind_some, onRet_ret, tup2]
        show (bif !(wrOk (l[i]'hi)) then _ else _) = _
        cases wrOk (l[i]'hi) <;> rfl
  have := key 0 (Nat.zero_le _)
  rw [List.drop_zero] at this
  exact this
theorem ref02_Right_is (l : List Tk) (hl : l.length < 4611686018427387904) (hk : ∀ t ∈ l, TkOk t) : den Sp ref02_Right.id [.sl .no T_api_Token (l.map Tk.v)] [] none = some ⟨.ret (.bool (rightL l)), [], none⟩ := by
  rw [ref02_Right.eq, List.length_map]
  by_cases h0 : l = []
  · subst h0; rfl
  · have hpos : 0 < l.length := List.length_pos_iff.2 h0
    have e3 : IntKind.wrap IntKind.i64 (((l.length : Nat) : Int) - 1) = ((l.length - 1 : Nat) : Int) := by rw [wrap_in (by omega) (by omega)]; omega
    have e4 : (0 : Int) ≤ ((l.length - 1 : Nat) : Int) ∧ ((l.length - 1 : Nat) : Int) < ((l.length : Nat) : Int) := by omega
    have hlast : l.length - 1 < l.length := by omega
    rw [beq_eq_false_iff_ne.2 (show ((l.length : Nat) : Int) ≠ 0 by omega), cond_false, e3, if_pos e4, Int.toNat_natCast, tkAt l _ hlast, tk_0, tk_1, tk_2, tk_3]
    have key : ∀ i : Nat, i ≤ l.length - 1 → ref02_Right.L1_1_1_0_1_0 (l.map Tk.v) (i : Int) (l[l.length - 1]'hlast).kind (B (l[l.length - 1]'hlast).text) (l[l.length - 1]'hlast).num (l[l.length - 1]'hlast).at_ = some ⟨.ret (.bool (rightL (l.drop i))), [], none⟩ := by
      refine down ?_ fun i hi ih => ?_
      · rw [ref02_Right.L1_1_1_0_1_0_eq, List.length_map, e3, decide_eq_false (Int.lt_irrefl _), cond_false, B_nil, rightL_last (by omega)]
        exact end_ret _
      · have hi2 : i < l.length := by omega
        have e1 : ((i : Int) < ((l.length - 1 : Nat) : Int)) := by omega
        have e2 : (0 : Int) ≤ (i : Int) ∧ ((i : Int) < ((l.length : Nat) : Int)) := ⟨by omega, by omega⟩
        obtain ⟨x, hx, _⟩ := ref02_Text_is (l[i]'hi2) (hk _ (List.getElem_mem hi2))
        have hx' : den Sp ref02_Text.id [(V.agg [(V.int IntKind.i64 (l[i]'hi2).kind), (V.str (B (l[i]'hi2).text)), (V.int IntKind.i64 (l[i]'hi2).num), (V.int IntKind.i64 (l[i]'hi2).at_)])] [] none = _ := hx
        rw [ref02_Right.L1_1_1_0_1_0_eq, List.length_map, e3, decide_eq_true e1, cond_true, if_pos e2, Int.toNat_natCast, tkAt l i hi2, tk_0, tk_1, tk_2, tk_3, wrap_nat (by omega), ih, hx', rightL_drop (l := l) (i := i) (by omega)]
        simp only [Option.bind_some, onRet_ret, tup2]
        show (bif !(wrOk (l[i]'hi2)) then _ else _) = _
        cases wrOk (l[i]'hi2) <;> rfl
    have := key 0 (Nat.zero_le _)
    rw [List.drop_zero] at this
    exact this
/-- A row of texts, as the machine has it. -/
def sv (l : List (List UInt8)) : List (List V) := l.map fun w => [.str (B w)]
theorem sv_len (l : List (List UInt8)) : (sv l).length = l.length := by simp [sv]
theorem sv_at (l : List (List UInt8)) (i : Nat) (h : i < l.length) : List.getD (List.getD (sv l) i []) 0 V.undef = .str (B (l[i]'h)) := by
  unfold sv
  rw [List.getD_eq_getElem?_getD (l := List.map _ _), List.getElem?_map, List.getElem?_eq_getElem h]; rfl
theorem sv_app (l : List (List UInt8)) (w : List UInt8) : sv l ++ [[.str (B w)]] = sv (l ++ [w]) := by simp [sv]
/-- The first words, joined. -/
def joinTo (l : List (List UInt8)) (i : Nat) : List UInt8 := joinL (l.take i)
theorem joinL_snoc : ∀ (l : List (List UInt8)) (w : List UInt8), l ≠ [] → joinL (l ++ [w]) = joinL l ++ 32 :: w
  | [], _, h => absurd rfl h
  | [a], w, _ => by simp [joinL]
  | a :: b :: l, w, _ => by
    have := joinL_snoc (b :: l) w (by simp)
    simp only [List.cons_append] at this ⊢
    simp only [joinL, this, List.append_assoc, List.cons_append]
theorem joinTo_succ {l : List (List UInt8)} {i : Nat} (h : i < l.length) : joinTo l (i + 1) = if i = 0 then (l[i]'h) else joinTo l i ++ 32 :: (l[i]'h) := by
  unfold joinTo
  rw [List.take_succ_eq_append_getElem h]
  by_cases h0 : i = 0
  · subst h0; rfl
  · rw [if_neg h0, joinL_snoc]
    intro h1
    have := congrArg List.length h1
    rw [List.length_take, List.length_nil] at this; omega
theorem joinTo_zero (l : List (List UInt8)) : joinTo l 0 = [] := by simp [joinTo, joinL]
theorem joinTo_all (l : List (List UInt8)) : joinTo l l.length = joinL l := by simp [joinTo]
/-- How heavy a row of texts is. -/
def weighW (l : List (List UInt8)) : Nat := (l.map fun w => 1 + w.length).sum
theorem weighW_take (l : List (List UInt8)) (i : Nat) (h : i < l.length) : weighW (l.take (i + 1)) = weighW (l.take i) + (1 + (l[i]'h).length) := by
  unfold weighW
  rw [List.take_succ_eq_append_getElem h]
  simp only [List.map_append, List.sum_append, List.map_cons, List.map_nil, List.sum_cons, List.sum_nil, Nat.add_zero]
theorem weighW_le (l : List (List UInt8)) (i : Nat) : weighW (l.take i) ≤ weighW l := by
  have h : weighW l = weighW (l.take i) + weighW (l.drop i) := by
    unfold weighW
    rw [← List.sum_append, ← List.map_append, List.take_append_drop]
  omega
theorem joinTo_len (l : List (List UInt8)) : ∀ i, i ≤ l.length → (joinTo l i).length ≤ weighW (l.take i)
  | 0, _ => by rw [joinTo_zero]; exact Nat.zero_le _
  | i + 1, h => by
    have ih := joinTo_len l i (by omega)
    rw [joinTo_succ (by omega), weighW_take l i (by omega)]
    split
    · omega
    · rw [List.length_append, List.length_cons]; omega
theorem num_Join_is (l : List (List UInt8)) (hl : l.length < 4611686018427387904) (hw : weighW l ≤ 1099511627776) : den Sp num_Join.id [.sl .no T_string (sv l)] [] none = some ⟨.ret (.str (B (joinL l))), [], none⟩ := by
  rw [num_Join.eq, sv_len]
  have key : ∀ i : Nat, i ≤ l.length → num_Join.L1_1_0_1_0 (bv (joinTo l i)) (sv l) (l.length : Int) (i : Int) = some ⟨.ret (.str (B (joinL l))), [], none⟩ := by
    refine down ?_ fun i hi ih => ?_
    · rw [num_Join.L1_1_0_1_0_eq, decide_eq_false (Int.lt_irrefl _), cond_false, bytesOk_bv, if_pos rfl, toBytes_bv, joinTo_all]
      rfl
    · have e1 : ((i : Int) < ((l.length : Nat) : Int)) := by omega
      have e2 : (0 : Int) ≤ (i : Int) ∧ ((i : Int) < ((l.length : Nat) : Int)) := ⟨by omega, e1⟩
      have h1 := joinTo_len l (i + 1) (by omega)
      have h2 := weighW_le l (i + 1)
      have h3 := joinTo_succ hi
      rw [num_Join.L1_1_0_1_0_eq, sv_len, decide_eq_true e1, cond_true, if_pos e2, Int.toNat_natCast, sv_at l i hi, asStr_str, B_size, ofBytes_B, wrap_nat (by omega), bv_length]
      by_cases h0 : i = 0
      · subst h0
        rw [if_pos rfl] at h3
        rw [joinTo_zero]
        have e4 : ([] : List UInt8).length + (l[0]'hi).length ≤ most := by
          show 0 + (l[0]'hi).length ≤ 1099511627776
          rw [h3] at h1; omega
        have e5 : decide (((0 : Nat) : Int) > 0) = false := rfl
        rw [e5, cond_false, if_pos e4, bv_append, List.nil_append, ← h3]
        exact ih
      · rw [if_neg h0] at h3
        rw [h3, List.length_append, List.length_cons] at h1
        have e3 : ((i : Int) > 0) := by omega
        have e4 : (joinTo l i).length + List.length [[(V.int IntKind.u8 (32 : Int))]] ≤ most := by
          show (joinTo l i).length + 1 ≤ 1099511627776
          omega
        have e5 : bv (joinTo l i) ++ [[(V.int IntKind.u8 (32 : Int))]] = bv (joinTo l i ++ [32]) := bv_append (joinTo l i) [32]
        have e6 : (joinTo l i ++ [32]).length + (l[i]'hi).length ≤ most := by
          show (joinTo l i ++ [32]).length + (l[i]'hi).length ≤ 1099511627776
          rw [List.length_append, List.length_singleton]; omega
        rw [decide_eq_true e3, cond_true, if_pos e4, e5, bv_length, if_pos e6, bv_append, List.append_assoc]
        rw [show joinTo l i ++ ([32] ++ (l[i]'hi)) = joinTo l (i + 1) by rw [h3]; rfl]
        exact ih
  have := key 0 (Nat.zero_le _)
  rw [joinTo_zero] at this
  exact this
theorem ref01_Join_is (l : List (List UInt8)) (hl : l.length < 4611686018427387904) (hw : weighW l ≤ 1099511627776) : den Sp ref01_Join.id [.sl .no T_string (sv l)] [] none = some ⟨.ret (.str (B (joinL l))), [], none⟩ := by
  rw [ref01_Join.eq]
  have key : ∀ i : Nat, i ≤ l.length → ref01_Join.L1_1_0_1_0 (sv l) (B (joinTo l i)) (i : Int) = some ⟨.ret (.str (B (joinL l))), [], none⟩ := by
    refine down ?_ fun i hi ih => ?_
    · rw [ref01_Join.L1_1_0_1_0_eq, sv_len, decide_eq_false (Int.lt_irrefl _), cond_false, joinTo_all]
    · have e1 : ((i : Int) < ((l.length : Nat) : Int)) := by omega
      have e2 : (0 : Int) ≤ (i : Int) ∧ ((i : Int) < ((l.length : Nat) : Int)) := ⟨by omega, e1⟩
      have h1 := joinTo_len l (i + 1) (by omega)
      have h2 := weighW_le l (i + 1)
      have h3 := joinTo_succ hi
      have h32 : (ByteArray.mk #[32]) = B [32] := rfl
      rw [ref01_Join.L1_1_0_1_0_eq, sv_len, decide_eq_true e1, cond_true, if_pos e2, if_pos e2, Int.toNat_natCast, sv_at l i hi, asStr_str, asStr_str, B_size, wrap_nat (by omega), h32, B_append, B_size, B_size, B_append, B_append]
      by_cases h0 : i = 0
      · subst h0
        rw [if_pos rfl] at h3
        rw [joinTo_zero]
        have e4 : ([] : List UInt8).length + (l[0]'hi).length ≤ most := by
          show 0 + (l[0]'hi).length ≤ 1099511627776
          rw [h3] at h1; omega
        have e5 : decide (((0 : Nat) : Int) > 0) = false := rfl
        rw [e5, cond_false, if_pos e4, List.nil_append, ← h3]
        exact ih
      · rw [if_neg h0] at h3
        rw [h3, List.length_append, List.length_cons] at h1
        have e3 : ((i : Int) > 0) := by omega
        have e4 : (joinTo l i).length + 1 ≤ most := by
          show (joinTo l i).length + 1 ≤ 1099511627776
          omega
        have e6 : (joinTo l i ++ [32]).length + (l[i]'hi).length ≤ most := by
          show (joinTo l i ++ [32]).length + (l[i]'hi).length ≤ 1099511627776
          rw [List.length_append, List.length_singleton]; omega
        rw [decide_eq_true e3, cond_true, if_pos e4, if_pos e6, List.append_assoc]
        rw [show joinTo l i ++ ([32] ++ (l[i]'hi)) = joinTo l (i + 1) by rw [h3]; rfl]
        exact ih
  have := key 0 (Nat.zero_le _)
  rw [joinTo_zero] at this
  exact this
end Go.Proofs.YtenpcpfkiniggaaDoor
