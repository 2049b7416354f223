/- LexBack: printed tokens are read as the same tokens, but for places. Own work. -/
import Derived.Test.YtenpcpfkiniggaaDoorPxBack
import Derived.Test.YtenpcpfkiniggaaDoorLawLexPrints
import Derived.Test.YtenpcpfkiniggaaDoorLawLexBlanks
namespace Go.Proofs.YtenpcpfkiniggaaDoor
open Go Go.Proofs.Ab Go.Proofs.Px
set_option linter.unusedVariables false
set_option linter.unusedSimpArgs false

def tailW : List (List UInt8) → List UInt8
  | [] => []
  | w :: ws => 32 :: joinL (w :: ws)
theorem joinL_cons (w : List UInt8) (ws : List (List UInt8)) : joinL (w :: ws) = w ++ tailW ws := by
  cases ws with
  | nil => simp [joinL, tailW]
  | cons v ws => rfl
theorem tailW_tail (ws : List (List UInt8)) : Tail (tailW ws) := by
  cases ws with
  | nil => exact .inl rfl
  | cons v ws => exact .inr ⟨_, rfl⟩
theorem sk_tail {ts : List Tk} (hw : ∀ t ∈ ts, wrOk t = true ∧ TkOk t) : sk false (joinL (ts.map wrT)) = joinL (ts.map wrT) ∧ sk false (tailW (ts.map wrT)) = joinL (ts.map wrT) := by
  cases ts with
  | nil => exact ⟨rfl, rfl⟩
  | cons t ts =>
    have h1 := hw t List.mem_cons_self
    have h2 : sk false (joinL ((t :: ts).map wrT)) = joinL ((t :: ts).map wrT) := by
      rw [List.map_cons, joinL_cons]
      exact sk_back h1.1 h1.2 _
    refine ⟨h2, ?_⟩
    have h3 : tailW ((t :: ts).map wrT) = 32 :: joinL ((t :: ts).map wrT) := rfl
    rw [h3, sk, if_neg (by decide), if_neg (fun h => Bool.noConfusion h), if_pos rfl, h2]
theorem scan_back : ∀ (ts : List Tk) (f n : Nat) (xs out : List Tk) (last : Tk) (r : List UInt8), (∀ t ∈ ts, wrOk t = true ∧ TkOk t) → sk false r = joinL (ts.map wrT) → ts.length < f → Sim xs out → out.length ≤ 4000 → endT last = true →
    if 4000 ≤ out.length + ts.length then ∃ a, scanGo f n out r = ([], a, 2) else ∃ us, scanGo f n out r = (us, 0, 0) ∧ Sim (xs ++ ts ++ [last]) us
  | [], f, n, xs, out, last, r, hw, hr, hf, hs, ho, hl => by
    obtain ⟨f, rfl⟩ : ∃ k, f = k + 1 := ⟨f - 1, by simp at hf; omega⟩
    have hr : sk false r = [] := hr
    rw [scanGo_succ, hr]
    have hn : next [] (((n - ([] : List UInt8).length : Nat) : Int)) = (⟨0, [], 0, ((n - ([] : List UInt8).length : Nat) : Int)⟩, 0, true) := rfl
    rw [hn]
    dsimp only
    rw [if_neg (fun h => Bool.noConfusion h)]
    by_cases h4 : 4000 ≤ out.length + ([] : List Tk).length
    · rw [if_pos h4, if_pos (by simp at h4; omega)]
      exact ⟨_, rfl⟩
    · rw [if_neg h4, if_neg (by simp at h4; omega), if_pos rfl]
      refine ⟨_, rfl, ?_⟩
      rw [List.append_nil]
      refine hs.snoc ?_
      unfold endT at hl
      simp only [Bool.and_eq_true, decide_eq_true_eq] at hl
      exact ⟨hl.1.1, hl.1.2, hl.2⟩
  | t :: ts, f, n, xs, out, last, r, hw, hr, hf, hs, ho, hl => by
    obtain ⟨f, rfl⟩ : ∃ k, f = k + 1 := ⟨f - 1, by simp at hf; omega⟩
    have ht := hw t List.mem_cons_self
    have hts : ∀ u ∈ ts, wrOk u = true ∧ TkOk u := fun u hu => hw u (List.mem_cons_of_mem _ hu)
    rw [List.map_cons, joinL_cons] at hr
    rw [scanGo_succ, hr]
    generalize (((n - (wrT t ++ tailW (ts.map wrT)).length : Nat) : Int)) = a
    have hnx := (next_back ht.1 ht.2 (tailW_tail (ts.map wrT)) a).1
    rw [hnx]
    dsimp only
    have hk0 : t.kind ≠ 0 := fun h => by
      have := ht.1
      unfold wrOk at this
      rw [h] at this
      simp at this
    rw [if_neg (fun h => Bool.noConfusion h), if_neg hk0]
    rw [List.drop_append_of_le_length (Nat.le_refl _), List.drop_length, List.nil_append]
    have hsk := (sk_tail hts).2
    by_cases h4 : out.length = 4000
    · rw [if_pos h4, if_pos (by omega)]
      exact ⟨_, rfl⟩
    · rw [if_neg h4]
      have ih := scan_back ts f n (xs ++ [t]) (out ++ [⟨t.kind, t.text, t.num, a⟩]) last (tailW (ts.map wrT)) hts hsk (by simp at hf; omega) (hs.snoc ⟨rfl, rfl, rfl⟩) (by rw [List.length_append, List.length_singleton]; omega) hl
      rw [List.length_append, List.length_singleton] at ih
      rw [List.length_cons]
      have e : out.length + 1 + ts.length = out.length + (ts.length + 1) := by omega
      rw [e] at ih
      by_cases h5 : 4000 ≤ out.length + (ts.length + 1)
      · rw [if_pos h5] at ih ⊢
        exact ih
      · rw [if_neg h5] at ih ⊢
        obtain ⟨us, h6, h7⟩ := ih
        refine ⟨us, h6, ?_⟩
        simpa using h7
theorem joinL_len : ∀ ws : List (List UInt8), (∀ w ∈ ws, w ≠ []) → ws.length ≤ (joinL ws).length
  | [], _ => Nat.zero_le _
  | w :: ws, h => by
    have h1 := List.length_pos_iff.2 (h w List.mem_cons_self)
    have h2 := joinL_len ws fun v hv => h v (List.mem_cons_of_mem _ hv)
    rw [joinL_cons, List.length_append]
    cases ws with
    | nil => simp; omega
    | cons v ws =>
      show (v :: ws).length + 1 ≤ w.length + (32 :: joinL (v :: ws)).length
      rw [List.length_cons (a := (32 : UInt8))]; omega
theorem lexBack_den (x : V) (h : Fits Sp.P 22 [x]) : den Sp law02_LexBack.id [x] [] none = some ⟨.ret (.bool true), [], none⟩ := by
  obtain ⟨l, rfl, hl, hk⟩ := tokens_in h
  obtain ⟨b, hm, hb⟩ := law02_many_is l (by omega) hk
  rw [law02_LexBack.eq, hm, law02_known_is]
  simp only [Option.bind_some, onRet_ret, asBool_bool]
  cases b with
  | true => rfl
  | false =>
    have hw := hb rfl
    have hlw := weigh_len l
    have hww := wordsL_weight l
    have tup_s : ∀ (s : ByteArray) (b : V) (k : ByteArray → Option Res), V.asStr ([V.str s, b].getD 0 .undef) k = k s := fun _ _ _ => rfl
    have tup_i : ∀ (a : V) (n : Int) (k : Int → Option Res), V.asInt ([a, V.int .i64 n].getD (0 + 1) .undef) .i64 k = k n := fun _ _ k => asInt_int _ _ k
    rw [cond_false, lex_Print_is l (by omega) hk, ref02_Right_is l (by omega) hk]
    unfold printV
    cases hr : rightL l with
    | false =>
      rw [if_neg (fun h => Bool.noConfusion h)]
      simp only [Option.bind_some, onRet_ret, tup2, tup_s, tup_i, asBool_bool]
      rfl
    | true =>
      rw [if_pos rfl]
      simp only [Option.bind_some, onRet_ret, tup2, tup_s, tup_i, asBool_bool]
      have hpos : 0 < l.length := by
        cases l with
        | nil => exact Bool.noConfusion hr
        | cons => simp
      have hjl : (joinL (wordsL l)).length ≤ weighW (wordsL l) := by
        have := joinTo_len (wordsL l) (wordsL l).length (Nat.le_refl _)
        rw [joinTo_all, List.take_length] at this
        exact this
      rw [lex_Scan_is _ (by omega)]
      unfold scanV scan
      have e0 : ((0 : Int) != 0) = false := rfl
      rw [e0, cond_false]
      simp only [Option.bind_some, onRet_ret]
      rw [tup3, g3_0, g3_1, g3_2, B_size, List.length_map, List.length_map]
      by_cases h1 : (joinL (wordsL l)).length > 16384
      · rw [if_pos h1, decide_eq_true (show (((joinL (wordsL l)).length : Nat) : Int) > 16384 by omega), cond_true]
        rfl
      · rw [if_neg h1, decide_eq_false (show ¬ (((joinL (wordsL l)).length : Nat) : Int) > 16384 by omega), cond_false]
        have hok := right_ok hr
        have hlast : endT (l[l.length - 1]'(by omega)) = true := by
          rcases Nat.lt_or_ge 1 l.length with h2 | h2
          · have := (hok (l.length - 2) (by omega)).2
            rw [rightL_last (l := l) (by omega)] at this
            simpa [show l.length - 2 + 1 = l.length - 1 by omega] using this
          · have h3 : rightL (l.drop 0) = true := by rw [List.drop_zero]; exact hr
            rw [rightL_last (l := l) (i := 0) (by omega)] at h3
            simpa [show l.length - 1 = 0 by omega] using h3
        have hts : ∀ t ∈ l.take (l.length - 1), wrOk t = true ∧ TkOk t := fun t ht => by
          obtain ⟨i, hi, rfl⟩ := List.getElem_of_mem ht
          rw [List.length_take] at hi
          rw [List.getElem_take]
          exact ⟨(hok i (by omega)).1, hk _ (List.getElem_mem (by omega))⟩
        have hne : ∀ w ∈ wordsL l, w ≠ [] := fun w hw' => by
          obtain ⟨t, ht, rfl⟩ := List.mem_map.1 hw'
          exact (next_back (hts t ht).1 (hts t ht).2 (.inl rfl) 0).2
        have hjw := joinL_len (wordsL l) hne
        have htl : (l.take (l.length - 1)).length = l.length - 1 := by rw [List.length_take]; omega
        have hsc := scan_back (l.take (l.length - 1)) ((joinL (wordsL l)).length + 1) (joinL (wordsL l)).length [] [] _ (joinL (wordsL l)) hts (sk_tail hts).1 (by rw [wordsL_len] at hjw; omega) Sim.nil (by simp) hlast
        rw [htl, List.length_nil, Nat.zero_add] at hsc
        by_cases h4 : 4000 ≤ l.length - 1
        · rw [if_pos h4] at hsc
          obtain ⟨a, ha⟩ := hsc
          rw [ha, decide_eq_true (show ((l.length : Nat) : Int) > 4000 by omega), cond_true]
          rfl
        · rw [if_neg h4] at hsc
          obtain ⟨us, hu, hs⟩ := hsc
          have hall : [] ++ l.take (l.length - 1) ++ [l[l.length - 1]'(by omega)] = l := by
            rw [List.nil_append, ← List.take_succ_eq_append_getElem (show l.length - 1 < l.length by omega), List.take_of_length_le (by omega)]
          rw [hall] at hs
          rw [hu, decide_eq_false (show ¬ ((l.length : Nat) : Int) > 4000 by omega), cond_false]
          dsimp only
          rw [ref02_Same_is l us hs (by omega)]
          rfl
end Go.Proofs.YtenpcpfkiniggaaDoor
