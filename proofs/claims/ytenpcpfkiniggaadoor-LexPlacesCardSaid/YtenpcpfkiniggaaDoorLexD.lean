/- Tokens: what the reader answers (3); a text's tokens. Own work. -/
import Derived.Test.YtenpcpfkiniggaaDoorLexC
namespace Go.Proofs.YtenpcpfkiniggaaDoor
open Go Go.Proofs.Ab Go.Proofs.Px
set_option linter.unusedVariables false
set_option linter.unusedSimpArgs false

theorem word_le (r : List UInt8) : (word r).length ≤ r.length := by
  unfold word
  exact (List.takeWhile_prefix inn).length_le
theorem signIn_le (r : List UInt8) : ∀ l, (signIn r l).length ≤ r.length
  | [] => Nat.zero_le _
  | x :: l => by
    unfold signIn
    split
    · rename_i h
      have := congrArg List.length h
      simp at this; omega
    · exact signIn_le r l
theorem sign_le (r : List UInt8) : (sign r).length ≤ r.length := signIn_le r signs
theorem next_le (r : List UInt8) (a : Int) : (next r a).2.1 ≤ r.length := by
  unfold next
  split
  · exact Nat.zero_le _
  · split
    · exact word_le _
    · split
      · exact word_le _
      · exact sign_le _
theorem dg_inn {c : UInt8} (h : dg c = true) : inn c = true := by
  unfold inn inner
  have : digit (c.toNat : Int) = true := h
  rw [this]; simp
theorem isKey_B' (l : List UInt8) : isKey (B l) = isKeyL l := isKey_B l
theorem dec_len (n m : Nat) : decide ((n : Int) ≤ (m : Int)) = decide (n ≤ m) := by
  by_cases h : n ≤ m
  · rw [decide_eq_true h, decide_eq_true (by omega)]
  · rw [decide_eq_false h, decide_eq_false (by omega)]
theorem lex_next_is (l : List UInt8) (hl : l.length < 1099511627776) (i : Nat) (hi : i ≤ l.length) :
    den Sp lex_reader_next.id [.ref 0 0] [rd l i] none = some ⟨.ret (.tup [.agg (next (l.drop i) i).1.v, .bool (next (l.drop i) i).2.2]), [rd l ((i + (next (l.drop i) i).2.1 : Nat) : Int)], none⟩ := by
  show den Sp lex_reader_next.id [.ref 0 0] [.cells T_lex_reader [.str (B l), .int .i64 i] false] none = _
  rw [lex_reader_next.eq]
  by_cases hend : i = l.length
  · subst hend
    rw [B_size, beq_self_eq_true, cond_true, List.drop_length]
    rfl
  · have hlt : i < l.length := by omega
    have hne : (((i : Nat) : Int) == ((l.length : Nat) : Int)) = false := beq_eq_false_iff_ne.2 (by omega)
    have hcond : (0 : Int) ≤ (i : Int) ∧ (i : Int) < (l.length : Int) := ⟨by omega, by omega⟩
    obtain ⟨c, hc⟩ : ∃ c, l.getD i 0 = c := ⟨_, rfl⟩
    have hd := drop_cons hlt
    rw [hc] at hd
    have hwd := lex_word_is l (by omega) i hi
    have hwl := word_le (l.drop i)
    rw [List.length_drop] at hwl
    have hwr : ∀ n : Nat, n ≤ l.length - i → IntKind.wrap IntKind.i64 ((i : Int) + (n : Int)) = ((i + n : Nat) : Int) := fun n hn => by
      rw [wrap_in (by omega) (by omega)]; omega
    have hrd : (Blk.cells T_lex_reader [(V.str (B l)), (V.int IntKind.i64 i)] Bool.false) = rd l i := rfl
    rw [B_size, hne, cond_false, if_pos hcond, Int.toNat_natCast, B_byte, hc, lex_letter_is, lex_digit_is, hrd, hwd]
    simp only [Option.bind_some, onRet_ret, asBool_bool, bl_mk]
    have hcells : ∀ (k : (Nat → V) → Option Res), Blk.asCells (List.getD [rd l i] 0 (Blk.cells T_n0 [] Bool.true)) T_lex_reader 2 k = k (fun j => [(V.str (B l)), (V.int IntKind.i64 i)].getD j .undef) := fun k => by
      show Blk.asCells (Blk.cells T_lex_reader [(V.str (B l)), (V.int IntKind.i64 i)] false) T_lex_reader 2 k = _
      exact asCells_cells _ _ _ rfl k
    rw [hcells, hcells]
    have hstr : ∀ (k : ByteArray → Option Res), V.asStr ([(V.str (B l)), (V.int IntKind.i64 i)].getD 0 .undef) k = k (B l) := fun k => rfl
    have hint : ∀ (k : Int → Option Res), V.asInt ([(V.str (B l)), (V.int IntKind.i64 i)].getD (0 + 1) .undef) IntKind.i64 k = k (i : Int) := fun k => asInt_int _ _ k
    simp only [hstr, hint, asStr_str, lex_isKey_is, Option.bind_some, onRet_ret, asBool_bool, B_size]
    have hnx : next (l.drop i) i = if lt c then (⟨if isKeyL (word (l.drop i)) then 3 else 1, word (l.drop i), 0, i⟩, (word (l.drop i)).length, decide ((word (l.drop i)).length ≤ 40))
        else if dg c then (⟨2, [], (parse (word (l.drop i))).1, i⟩, (word (l.drop i)).length, decide ((parse (word (l.drop i))).2 = 0))
        else (⟨4, sign (l.drop i), 0, i⟩, (sign (l.drop i)).length, !decide (sign (l.drop i) = [])) := by
      generalize hr : l.drop i = r at hd
      subst hd
      rfl
    show (bif lt c then _ else _) = _
    cases hlc : lt c with
    | true =>
      rw [hnx, hlc, cond_true, if_pos rfl, isKey_B', hwr _ hwl]
      have h40 := dec_len (word (l.drop i)).length 40
      rw [show ((40 : Nat) : Int) = (40 : Int) from rfl] at h40
      rw [h40]
      cases isKeyL (word (l.drop i)) <;> simp only [cond_true, cond_false, if_true, Bool.false_eq_true, if_false] <;> rfl
    | false =>
      rw [hnx, hlc, cond_false]
      simp only [Bool.false_eq_true, if_false]
      show (bif dg c then _ else _) = _
      cases hdc : dg c with
      | true =>
        rw [cond_true]
        simp only [if_true]
        have hwc : word (l.drop i) = c :: word (l.drop (i + 1)) := by
          rw [hd]; unfold word
          rw [List.takeWhile_cons, dg_inn hdc]; rfl
        have hp := num_Parse_dg c (word (l.drop (i + 1))) hdc (by rw [← hwc]; omega)
        rw [← hwc] at hp
        rw [hp, hwr _ hwl]
        unfold pairV
        simp only [Option.bind_some, onRet_ret]
        have htp : ∀ (a b : V) (k : (Nat → V) → Option Res), V.asTup (.tup [a, b]) 2 k = k (fun j => [a, b].getD j .undef) := fun a b k => asTup_tup _ _ rfl k
        rw [htp]
        have hi1 : ∀ (a b : Int) (k : Int → Option Res), V.asInt ([V.int .i64 a, V.int .i64 b].getD 0 .undef) IntKind.i64 k = k a := fun a b k => asInt_int _ _ k
        have hi2 : ∀ (a b : Int) (k : Int → Option Res), V.asInt ([V.int .i64 a, V.int .i64 b].getD (0 + 1) .undef) IntKind.i64 k = k b := fun a b k => asInt_int _ _ k
        rw [hi1, hi2]
        rfl
      | false =>
        rw [cond_false]
        simp only [Bool.false_eq_true, if_false]
        have h1 : (0 : Int) ≤ (i : Int) := by omega
        have h2 : i ≤ l.length ∧ l.length ≤ l.length := ⟨hi, Nat.le_refl _⟩
        rw [if_pos h1, if_pos h2, B_extract]
        have htake : (l.drop i).take (l.length - i) = l.drop i := List.take_of_length_le (by simp)
        have hsl := sign_le (l.drop i)
        rw [List.length_drop] at hsl
        rw [htake, lex_sign_is _ (by rw [List.length_drop]; omega)]
        simp only [Option.bind_some, onRet_ret, asStr_str, B_size]
        rw [hwr _ hsl, B_nil, B_dec]
        rfl
end Go.Proofs.YtenpcpfkiniggaaDoor
