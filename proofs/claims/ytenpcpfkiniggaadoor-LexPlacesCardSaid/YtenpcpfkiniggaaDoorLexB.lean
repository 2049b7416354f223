/- What the reader of a text answers. Own work. -/
import Derived.Test.YtenpcpfkiniggaaDoorPxLex
import Derived.Test.YtenpcpfkiniggaaDoorLexA
import Derived.Laws.Bits64
namespace Go.Proofs.YtenpcpfkiniggaaDoor
open Go Go.Proofs.Ab Go.Proofs.Px
set_option linter.unusedVariables false
set_option linter.unusedSimpArgs false

theorem signs_map : (signs.map fun x => V.str (B x)) = [.str (B [61, 61]), .str (B [33, 61]), .str (B [60, 61]), .str (B [38, 38]), .str (B [124, 124]), .str (B [40]), .str (B [41]), .str (B [123]), .str (B [125]), .str (B [91]), .str (B [93]), .str (B [44]), .str (B [59]), .str (B [61]), .str (B [60]), .str (B [33]), .str (B [43]), .str (B [45]), .str (B [42]), .str (B [47]), .str (B [37])] := rfl
theorem lex_sign_is (l : List UInt8) (hl : l.length < 4611686018427387904) : den Sp lex_sign.id [.str (B l)] [] none = some ⟨.ret (.str (B (sign l))), [], none⟩ := by
  rw [lex_sign.eq]
  have key : ∀ i : Nat, i ≤ 21 → lex_sign.L1_0_1_1_0_1_0 (B l) (i : Int) = some ⟨.ret (.str (B (signIn l (signs.drop i)))), [], none⟩ := by
    refine down ?_ fun i hi ih => ?_
    · rw [lex_sign.L1_0_1_1_0_1_0_eq]; rfl
    · rw [lex_sign.L1_0_1_1_0_1_0_eq, wrap_nat (by omega), ih]
      have hi' : i < signs.length := hi
      have h1 : ((i : Int) < 21) := by omega
      have h2 : ((0 : Int) ≤ i ∧ (i : Int) < ((21 : Nat) : Int)) := by omega
      rw [show (decide ((i : Int) < 21)) = true by simp [h1], cond_true, if_pos h2, sz_str]
      have h3 : (signs.map fun x => V.str (B x)).getD ((Int.toNat (i : Int)) * 1 + 0) V.undef = V.str (B (signs[i]'hi')) := by
        rw [List.getD_eq_getElem?_getD, List.getElem?_map, show Int.toNat (i : Int) * 1 + 0 = i by simp, List.getElem?_eq_getElem hi']
        rfl
      refine (congrArg (fun v => V.asStr v _) h3).trans ?_
      rw [asStr_str, List.drop_eq_getElem_cons hi']
      generalize signs[i]'hi' = x
      have hs : signIn l (x :: signs.drop (i + 1)) = if l.take x.length = x then x else signIn l (signs.drop (i + 1)) := rfl
      rw [hs]
      simp only [B_size, Int.toNat_natCast, B_extract, List.drop_zero, Nat.sub_zero, B_dec, Nat.zero_le, true_and]
      by_cases hx : x.length ≤ l.length
      · have h4 : ((x.length : Nat) : Int) ≤ ((l.length : Nat) : Int) := by omega
        simp only [h4, decide_true, cond_true, hx, if_true]
        by_cases he : l.take x.length = x
        · simp [he]
        · simp [he]
      · have h4 : ¬ ((x.length : Nat) : Int) ≤ ((l.length : Nat) : Int) := by omega
        have he : ¬ l.take x.length = x := fun h => by
          have := congrArg List.length h
          simp at this; omega
        simp [h4, he]
  exact key 0 (by omega)
def rd (l : List UInt8) (i : Int) : Blk := .cells T_lex_reader [.str (B l), .int .i64 i] false
theorem blank_T (l : List UInt8) (hl : l.length < 4611686018427387904) (i : Nat) (hi : i < l.length) (c : UInt8) (hc : l.getD i 0 = c) :
    lex_reader_blank.L0_0_1_0_1_0_1_1_1_0_0 (B l) (i : Int) = bif (c == 10) then lex_reader_blank.L0 (B l) (i : Int) else lex_reader_blank.L0_0_1_0_1_0_1_1_1_0_0 (B l) ((i + 1 : Nat) : Int) := by
  have hlt : ((i : Int) < (l.length : Int)) := by omega
  have hcond : (0 : Int) ≤ (i : Int) ∧ (i : Int) < (l.length : Int) := ⟨by omega, hlt⟩
  rw [lex_reader_blank.L0_0_1_0_1_0_1_1_1_0_0_eq, wrap_nat (by omega), B_size, decide_eq_true hlt, cond_true, if_pos hcond, Int.toNat_natCast, B_byte, hc]
  have hne : ((c.toNat : Int) != (10 : Int)) = !(c == 10) := congrArg not (byte_eq c 10 (by omega))
  rw [hne]
  cases (c == 10) <;> simp only [Bool.not_false, Bool.not_true, cond_true, cond_false]
theorem blank_F (l : List UInt8) (hl : l.length < 4611686018427387904) (i : Nat) (hi : i < l.length) (c : UInt8) (hc : l.getD i 0 = c) :
    lex_reader_blank.L0 (B l) (i : Int) = bif (c == 32) then lex_reader_blank.L0 (B l) ((i + 1 : Nat) : Int) else bif (c == 10) then lex_reader_blank.L0 (B l) ((i + 1 : Nat) : Int) else
      bif (c == 35) then lex_reader_blank.L0_0_1_0_1_0_1_1_1_0_0 (B l) (i : Int) else some ⟨.ret (.tup []), [rd l (i : Int)], none⟩ := by
  have hlt : ((i : Int) < (l.length : Int)) := by omega
  have hcond : (0 : Int) ≤ (i : Int) ∧ (i : Int) < (l.length : Int) := ⟨by omega, hlt⟩
  rw [lex_reader_blank.L0_eq, wrap_nat (by omega), B_size, decide_eq_true hlt, cond_true, if_pos hcond, Int.toNat_natCast, B_byte, hc]
  have h1 : ((c.toNat : Int) == (32 : Int)) = (c == 32) := byte_eq c 32 (by omega)
  have h2 : ((c.toNat : Int) == (10 : Int)) = (c == 10) := byte_eq c 10 (by omega)
  have h3 : ((c.toNat : Int) == (35 : Int)) = (c == 35) := byte_eq c 35 (by omega)
  rw [h1, h2, h3]
  unfold rd
  cases (c == 32) <;> cases (c == 10) <;> cases (c == 35) <;> simp only [cond_true, cond_false]
theorem lex_blank_is (l : List UInt8) (hl : l.length < 4611686018427387904) (i : Nat) (hi : i ≤ l.length) :
    den Sp lex_reader_blank.id [.ref 0 0] [rd l i] none = some ⟨.ret (.tup []), [rd l ((l.length - (sk false (l.drop i)).length : Nat) : Int)], none⟩ := by
  show den Sp lex_reader_blank.id [.ref 0 0] [.cells T_lex_reader [.str (B l), .int .i64 i] false] none = _
  rw [lex_reader_blank.eq]
  have key : ∀ i : Nat, i ≤ l.length → lex_reader_blank.L0 (B l) (i : Int) = some ⟨.ret (.tup []), [rd l ((l.length - (sk false (l.drop i)).length : Nat) : Int)], none⟩ ∧
      lex_reader_blank.L0_0_1_0_1_0_1_1_1_0_0 (B l) (i : Int) = some ⟨.ret (.tup []), [rd l ((l.length - (sk true (l.drop i)).length : Nat) : Int)], none⟩ := by
    refine down ?_ fun i hi ih => ?_
    · have hlt : ¬ ((l.length : Int) < (l.length : Int)) := by omega
      have h0 : lex_reader_blank.L0 (B l) (l.length : Int) = some ⟨.ret (.tup []), [rd l ((l.length : Nat) : Int)], none⟩ := by
        rw [lex_reader_blank.L0_eq, B_size, decide_eq_false hlt]; rfl
      have h1 : lex_reader_blank.L0_0_1_0_1_0_1_1_1_0_0 (B l) (l.length : Int) = lex_reader_blank.L0 (B l) (l.length : Int) := by
        rw [lex_reader_blank.L0_0_1_0_1_0_1_1_1_0_0_eq, B_size, decide_eq_false hlt]; rfl
      rw [h1, h0, List.drop_length]
      exact ⟨rfl, rfl⟩
    · obtain ⟨ih1, ih2⟩ := ih
      obtain ⟨c, hc⟩ : ∃ c, l.getD i 0 = c := ⟨_, rfl⟩
      have hd := drop_cons hi
      rw [hc] at hd
      have hT := blank_T l hl i hi c hc
      have hF := blank_F l hl i hi c hc
      have hn : l.length - (c :: l.drop (i + 1)).length = i := by rw [← hd, List.length_drop]; omega
      have goF : lex_reader_blank.L0 (B l) (i : Int) = some ⟨.ret (.tup []), [rd l ((l.length - (sk false (l.drop i)).length : Nat) : Int)], none⟩ := by
        rw [hF, hd]
        unfold sk
        by_cases c10 : c = 10
        · subst c10
          simp only [beq_self_eq_true, cond_true, show ((10 : UInt8) == 32) = false from rfl, cond_false, if_true]
          exact ih1
        · rw [if_neg c10, if_neg nofun]
          by_cases c32 : c = 32
          · subst c32
            simp only [beq_self_eq_true, cond_true, if_true]
            exact ih1
          · rw [if_neg c32]
            by_cases c35 : c = 35
            · subst c35
              simp only [beq_self_eq_true, cond_true, if_true, show ((35 : UInt8) == 32) = false from rfl, show ((35 : UInt8) == 10) = false from rfl, cond_false]
              rw [hT]
              simp only [show ((35 : UInt8) == 10) = false from rfl, cond_false]
              exact ih2
            · rw [if_neg c35, beq_eq_false_iff_ne.2 c10, beq_eq_false_iff_ne.2 c32, beq_eq_false_iff_ne.2 c35, cond_false, cond_false, cond_false, hn]
      refine ⟨goF, ?_⟩
      rw [hT]
      by_cases c10 : c = 10
      · subst c10
        simp only [beq_self_eq_true, cond_true]
        rw [goF, hd]
        have : sk false (10 :: l.drop (i + 1)) = sk true (10 :: l.drop (i + 1)) := by simp [sk]
        rw [this]
      · rw [beq_eq_false_iff_ne.2 c10, cond_false, ih2, hd]
        have : sk true (c :: l.drop (i + 1)) = sk true (l.drop (i + 1)) := by
          rw [sk, if_neg c10, if_pos rfl]
        rw [this]
  exact (key i hi).1
theorem lex_word_is (l : List UInt8) (hl : l.length < 4611686018427387904) (i : Nat) (hi : i ≤ l.length) :
    den Sp lex_reader_word.id [.ref 0 0] [rd l i] none = some ⟨.ret (.str (B (word (l.drop i)))), [rd l i], none⟩ := by
  show den Sp lex_reader_word.id [.ref 0 0] [.cells T_lex_reader [.str (B l), .int .i64 i] false] none = _
  rw [lex_reader_word.eq]
  have fin : ∀ k : Nat, i ≤ k → k ≤ l.length → (if ((0 : Int) ≤ (i : Int)) then (if ((0 : Int) ≤ (k : Int)) then (if (((Int.toNat (i : Int)) ≤ (Int.toNat (k : Int))) ∧ ((Int.toNat (k : Int)) ≤ (ByteArray.size (B l)))) then (some (Res.mk (Out.ret (V.str (ByteArray.extract (B l) (Int.toNat (i : Int)) (Int.toNat (k : Int))))) [(Blk.cells T_lex_reader [(V.str (B l)), (V.int IntKind.i64 i)] Bool.false)] none)) else none) else none) else none) =
      some ⟨.ret (.str (B ((l.drop i).take (k - i)))), [rd l i], none⟩ := fun k h1 h2 => by
    rw [if_pos (by omega), if_pos (by omega), if_pos (by simp; omega)]
    simp [rd]
  have key : ∀ k : Nat, k ≤ l.length → i ≤ k → lex_reader_word.L1_1_0_0 (k : Int) (B l) (i : Int) = some ⟨.ret (.str (B ((l.drop i).take (k - i + (word (l.drop k)).length)))), [rd l i], none⟩ := by
    refine down (fun hik => ?_) fun k hk ih hik => ?_
    · rw [lex_reader_word.L1_1_0_0_eq]
      have := fin l.length hik (Nat.le_refl _)
      simp only [B_size, Int.lt_irrefl, decide_false, cond_false]
      simp only [B_size] at this
      rw [this]; simp [word]
    · have hlt : ((k : Int) < (l.length : Int)) := by omega
      have hcond : (0 : Int) ≤ (k : Int) ∧ (k : Int) < (l.length : Int) := ⟨by omega, hlt⟩
      have h2 := fin k hik (by omega)
      rw [B_size] at h2
      obtain ⟨c, hc⟩ : ∃ c, l.getD k 0 = c := ⟨_, rfl⟩
      have hd := drop_cons hk
      rw [hc] at hd
      rw [lex_reader_word.L1_1_0_0_eq, wrap_nat (by omega), ih (by omega), lex_inner_is, B_size, decide_eq_true hlt, cond_true, if_pos hcond, Int.toNat_natCast, B_byte, hc]
      simp only [Option.bind_some, onRet_ret, asBool_bool]
      have hw : word (c :: l.drop (k + 1)) = if inn c then c :: word (l.drop (k + 1)) else [] := by unfold word; rw [List.takeWhile_cons]
      rw [hd, hw]
      show (bif inn c then _ else _) = _
      cases hin : inn c with
      | true =>
        simp only [cond_true, if_true, List.length_cons]
        rw [show k + 1 - i + (word (l.drop (k + 1))).length = k - i + ((word (l.drop (k + 1))).length + 1) by omega]
      | false =>
        simp only [cond_false, List.length_nil, Nat.add_zero]
        simp only [Int.toNat_natCast] at h2
        exact h2
  have := key i hi (Nat.le_refl _)
  rw [this, Nat.sub_self, Nat.zero_add]
  have hw : (l.drop i).take (word (l.drop i)).length = word (l.drop i) := by
    unfold word
    exact (List.prefix_iff_eq_take.1 (List.takeWhile_prefix inn)).symm
  rw [hw]
end Go.Proofs.YtenpcpfkiniggaaDoor
