/- Tokens' texts: what both answer. Own work. -/
import Derived.Test.YtenpcpfkiniggaaDoorLexE
import Derived.Test.YtenpcpfkiniggaaDoorLexM
import Derived.Test.YtenpcpfkiniggaaDoorPxPrint
import Derived.Test.YtenpcpfkiniggaaDoorR2
namespace Go.Proofs.YtenpcpfkiniggaaDoor
open Go Go.Proofs.Ab Go.Proofs.Px
set_option linter.unusedVariables false
set_option linter.unusedSimpArgs false

theorem wrap_range (x : Int) : -9223372036854775808 ≤ IntKind.i64.wrap x ∧ IntKind.i64.wrap x ≤ 9223372036854775807 := by
  rw [IntKind.wrap_i64]; omega
theorem ref02_run_is (l : List UInt8) (hl : l.length < 4611686018427387904) : den Sp ref02_run.id [.str (B l)] [] none = some ⟨.ret (.int .i64 ((word l).length : Int)), [], none⟩ := by
  rw [ref02_run.eq]
  have key : ∀ k : Nat, k ≤ l.length → ref02_run.L1_1_0_0 (B l) (k : Int) = some ⟨.ret (.int .i64 ((k + (word (l.drop k)).length : Nat) : Int)), [], none⟩ := by
    refine down ?_ fun k hk ih => ?_
    · rw [ref02_run.L1_1_0_0_eq, B_size, decide_eq_false (Int.lt_irrefl _), cond_false, List.drop_length]; rfl
    · have hlt : ((k : Int) < (l.length : Int)) := by omega
      have hcond : (0 : Int) ≤ (k : Int) ∧ (k : Int) < (l.length : Int) := ⟨by omega, hlt⟩
      obtain ⟨c, hc⟩ : ∃ c, l.getD k 0 = c := ⟨_, rfl⟩
      have hd := drop_cons hk
      rw [hc] at hd
      rw [ref02_run.L1_1_0_0_eq, wrap_nat (by omega), ih, ref02_inner_is, B_size, decide_eq_true hlt, cond_true, if_pos hcond, Int.toNat_natCast, B_byte, hc]
      simp only [Option.bind_some, onRet_ret, asBool_bool]
      have hw : word (c :: l.drop (k + 1)) = if inn c then c :: word (l.drop (k + 1)) else [] := by unfold word; rw [List.takeWhile_cons]
      rw [hd, hw]
      show (bif inn c then _ else _) = _
      cases hin : inn c with
      | true =>
        simp only [cond_true, if_true, List.length_cons]
        rw [show k + 1 + (word (l.drop (k + 1))).length = k + ((word (l.drop (k + 1))).length + 1) by omega]
      | false => rfl
  have := key 0 (Nat.zero_le _)
  rw [Nat.zero_add, List.drop_zero] at this
  exact this
theorem ref01_Parse_ex (c : UInt8) (r : List UInt8) (hc : dg c = true) (hl : (c :: r).length < 4611686018427387904) : ∃ m e : Int, den Sp ref01_Parse.id [.str (B (c :: r))] [] none = pairV (m, e) := by
  have h45 : ((c.toNat : Int) == (45 : Int)) = false := by
    unfold dg digit at hc
    simp only [Bool.and_eq_true, decide_eq_true_eq] at hc
    exact beq_eq_false_iff_ne.2 (by omega)
  rw [ref01_Parse.eq]
  generalize hw : c :: r = w at *
  have hg : w.getD 0 0 = c := by rw [← hw]; rfl
  have hpos : 0 < w.length := by rw [← hw]; simp
  have p1 : (((w.length : Nat) : Int) > 0) := by omega
  have p2 : (0 : Int) ≤ 0 ∧ (0 : Int) < ((w.length : Nat) : Int) := ⟨Int.le_refl _, p1⟩
  have key : ∀ k : Nat, k ≤ w.length → ∀ n : Int, -9223372036854775808 ≤ n → n ≤ 9223372036854775807 → ∃ m e : Int, ref01_Parse.L1_1_0_1_0 (B w) n (k : Int) = pairV (m, e) := by
    refine down (fun n h0 h1 => ?_) fun k hk ih n h0 h1 => ?_
    · rw [ref01_Parse.L1_1_0_1_0_eq, B_size, decide_eq_false (Int.lt_irrefl _), cond_false, decide_eq_true p1, cond_true, if_pos p2, B_byte _ 0, hg, h45, cond_false]
      rw [ref01_Text_is n h0 h1]
      simp only [Option.bind_some, onRet_ret, asStr_str]
      cases decide (B (decs n) = B w)
      · exact ⟨0, 10, rfl⟩
      · exact ⟨n, 0, rfl⟩
    · have hlt : ((k : Int) < (w.length : Int)) := by omega
      have hcond : (0 : Int) ≤ (k : Int) ∧ (k : Int) < (w.length : Int) := ⟨by omega, hlt⟩
      rw [ref01_Parse.L1_1_0_1_0_eq, B_size, decide_eq_true hlt, cond_true, decide_eq_true p1, cond_true, if_pos p2, if_pos hcond, if_pos hcond, if_pos hcond, wrap_nat (by omega), B_byte _ 0, hg, h45, cond_false]
      by_cases h25 : (k : Int) < 25
      · rw [decide_eq_true h25, cond_true]
        cases decide (byteAt (B w) (k : Int).toNat ≥ 48) with
        | false => rw [cond_false]; exact ih n h0 h1
        | true =>
          rw [cond_true]
          cases decide (byteAt (B w) (k : Int).toNat ≤ 57) with
          | false => rw [cond_false]; exact ih n h0 h1
          | true => rw [cond_true]; exact ih _ (wrap_range _).1 (wrap_range _).2
      · rw [decide_eq_false h25, cond_false]
        rw [ref01_Text_is n h0 h1]
        simp only [Option.bind_some, onRet_ret, asStr_str]
        cases decide (B (decs n) = B w)
        · exact ⟨0, 10, rfl⟩
        · exact ⟨n, 0, rfl⟩
  exact key 0 (Nat.zero_le _) 0 (by omega) (by omega)
theorem ref02_Signs_is : den Sp ref02_Signs.id [] [] none = some ⟨.ret (.sl .no T_string ((refSigns.map B).map fun k => [.str k])), [], none⟩ := ref02_Signs.eq
def firstV (t : Tk) (n : Nat) : Option Res := some ⟨.ret (.tup [.agg t.v, .int .i64 (n : Int)]), [], none⟩
def tk0 : Tk := ⟨0, [], 0, 0⟩
theorem first_round (l : List UInt8) (hl : l.length < 4611686018427387904) (k : Nat) (hk : k ≤ 2) :
    ref02_First.L1_1_1_1_1_1_0_1_0 (B l) 0 ((k + 1 : Nat) : Int) = if k + 1 ≤ l.length ∧ isSign (l.take (k + 1)) = true then firstV ⟨4, l.take (k + 1), 0, 0⟩ (k + 1) else ref02_First.L1_1_1_1_1_1_0_1_0 (B l) 0 (k : Int) := by
  have e1 : ((k + 1 : Nat) : Int) > 0 := by omega
  have e2 : ((0 : Int) ≤ ((k + 1 : Nat) : Int)) := by omega
  have e3 : IntKind.wrap IntKind.i64 (((k + 1 : Nat) : Int) - 1) = (k : Int) := by rw [wrap_in (by omega) (by omega)]; omega
  rw [ref02_First.L1_1_1_1_1_1_0_1_0_eq, decide_eq_true e1, cond_true, show ((0 : Int) == 0) = true from rfl, cond_true, e3, if_pos e2, if_pos e2, B_size, Int.toNat_natCast, B_extract, List.drop_zero, Nat.sub_zero, ref02_Signs_is]
  by_cases h : k + 1 ≤ l.length
  · have e4 : (((l.length : Nat) : Int) ≥ ((k + 1 : Nat) : Int)) := by omega
    have e5 : 0 ≤ k + 1 ∧ k + 1 ≤ l.length := ⟨by omega, h⟩
    rw [decide_eq_true e4, cond_true, if_pos e5, if_pos e5]
    simp only [Option.bind_some, onRet_ret, asSl_sl]
    rw [ref02_in_is _ _ (by decide), refSigns_is]
    simp only [Option.bind_some, onRet_ret, asBool_bool]
    cases hs : isSign (l.take (k + 1)) with
    | true => rw [cond_true, if_pos ⟨h, rfl⟩]; rfl
    | false => rw [cond_false, if_neg (fun hh => Bool.noConfusion hh.2)]
  · have e4 : ¬ (((l.length : Nat) : Int) ≥ ((k + 1 : Nat) : Int)) := by omega
    rw [decide_eq_false e4, cond_false, if_neg (fun hh => h hh.1)]
theorem first_end (l : List UInt8) (n : Int) : ref02_First.L1_1_1_1_1_1_0_1_0 (B l) n 0 = firstV tk0 0 := by
  rw [ref02_First.L1_1_1_1_1_1_0_1_0_eq]; rfl
theorem first_word (l : List UInt8) (n : Nat) (hn : 0 < n) (hn2 : n < 4611686018427387904) : ∀ k : Nat, k ≤ 2 → ref02_First.L1_1_1_1_1_1_0_1_0 (B l) (n : Int) (k : Int) = firstV tk0 0
  | 0, _ => first_end l n
  | k + 1, hk => by
    have e1 : ((k + 1 : Nat) : Int) > 0 := by omega
    have e3 : IntKind.wrap IntKind.i64 (((k + 1 : Nat) : Int) - 1) = (k : Int) := by rw [wrap_in (by omega) (by omega)]; omega
    have e2 : ((n : Int) == 0) = false := beq_eq_false_iff_ne.2 (by omega)
    rw [ref02_First.L1_1_1_1_1_1_0_1_0_eq, decide_eq_true e1, cond_true, e2, cond_false, e3]
    exact first_word l n hn hn2 k (by omega)
/-- A text that begins with no letter and no digit. -/
theorem first_sign (l : List UInt8) (hl : l.length < 4611686018427387904) (hw : word l = []) : den Sp ref02_First.id [.str (B l)] [] none =
    if 2 ≤ l.length ∧ isSign (l.take 2) = true then firstV ⟨4, l.take 2, 0, 0⟩ 2 else if 1 ≤ l.length ∧ isSign (l.take 1) = true then firstV ⟨4, l.take 1, 0, 0⟩ 1 else firstV tk0 0 := by
  have e1 : (0 : Int) ≤ ((([] : List UInt8).length : Nat) : Int) := Int.le_refl _
  have e2 : 0 ≤ ([] : List UInt8).length ∧ ([] : List UInt8).length ≤ l.length := ⟨Nat.le_refl _, Nat.zero_le _⟩
  rw [ref02_First.eq, ref02_run_is l hl, hw]
  simp only [Option.bind_some, onRet_ret, asInt_int]
  have e3 : decide (((([] : List UInt8).length : Nat) : Int) > 0) = false := rfl
  rw [if_pos e1, Int.toNat_natCast, B_size, if_pos e2, e3]
  simp only [cond_false]
  have h2 := first_round l hl 1 (by omega)
  have h1 := first_round l hl 0 (by omega)
  have h0 := first_end l 0
  show ref02_First.L1_1_1_1_1_1_0_1_0 (B l) 0 ((1 + 1 : Nat) : Int) = _
  rw [h2, show ((1 : Nat) : Int) = ((0 + 1 : Nat) : Int) from rfl, h1, show ((0 : Nat) : Int) = 0 from rfl, h0]
theorem first_wd (l : List UInt8) (hl : l.length < 4611686018427387904) (hw : word l ≠ []) :
    ∃ (t : Tk) (n : Nat), den Sp ref02_First.id [.str (B l)] [] none = firstV t n ∧
      ((dg (l.getD 0 0) = true ∧ (n = 0 ∨ t.kind = 2)) ∨ (dg (l.getD 0 0) = false ∧ isKeyL (word l) = true ∧ t.kind = 3 ∧ n = (word l).length) ∨
        (dg (l.getD 0 0) = false ∧ isKeyL (word l) = false ∧ isName (B (word l)) = true ∧ t.kind = 1 ∧ n = (word l).length) ∨
        (dg (l.getD 0 0) = false ∧ isKeyL (word l) = false ∧ isName (B (word l)) = false ∧ t.kind = 0 ∧ n = 0)) := by
  have hwl := word_le l
  have hpos : 0 < (word l).length := List.length_pos_iff.2 hw
  have htk : l.take (word l).length = word l := by
    unfold word
    exact (List.prefix_iff_eq_take.1 (List.takeWhile_prefix inn)).symm
  have e1 : (0 : Int) ≤ (((word l).length : Nat) : Int) := by omega
  have e2 : 0 ≤ (word l).length ∧ (word l).length ≤ l.length := ⟨Nat.zero_le _, hwl⟩
  have e3 : ((((word l).length : Nat) : Int) > 0) := by omega
  have e4 : (0 : Int) ≤ 0 ∧ (0 : Int) < ((l.length : Nat) : Int) := ⟨Int.le_refl _, by omega⟩
  have hloop := first_word l (word l).length hpos (by omega) 2 (by omega)
  rw [show ((2 : Nat) : Int) = 2 from rfl] at hloop
  rw [ref02_First.eq, ref02_run_is l hl]
  simp only [Option.bind_some, onRet_ret, asInt_int]
  rw [if_pos e1, Int.toNat_natCast, B_size, if_pos e2, decide_eq_true e3, cond_true, if_pos e4, ref02_digit_is, B_byte, B_extract, List.drop_zero, Nat.sub_zero, htk, cond_true, cond_true, ref02_Keys_is]
  simp only [Option.bind_some, onRet_ret, asBool_bool]
  have hdg : digit ((l.getD 0 0).toNat : Int) = dg (l.getD 0 0) := rfl
  rw [hdg]
  cases hd : dg (l.getD 0 0) with
  | true =>
    rw [cond_true]
    obtain ⟨c, r, hcr⟩ : ∃ c r, word l = c :: r := by
      cases h : word l with
      | nil => exact absurd h hw
      | cons c r => exact ⟨c, r, rfl⟩
    have hc : l.getD 0 0 = c := by
      have := htk
      rw [hcr] at this
      cases l with
      | nil => simp at this
      | cons a l => simp at this; exact this.1
    obtain ⟨m, e, hp⟩ := ref01_Parse_ex c r (hc ▸ hd) (by rw [← hcr]; omega)
    rw [hcr, hp]
    unfold pairV
    simp only [Option.bind_some, onRet_ret, tup2]
    cases he : (e != 0) with
    | true =>
      refine ⟨tk0, 0, ?_, .inl ⟨by simp, .inl rfl⟩⟩
      show V.asInt (.int .i64 m) .i64 _ = _
      rw [asInt_int]
      show V.asInt (.int .i64 e) .i64 _ = _
      rw [asInt_int, he]; rfl
    | false =>
      refine ⟨⟨2, [], m, 0⟩, (c :: r).length, ?_, .inl ⟨by simp, .inr rfl⟩⟩
      show V.asInt (.int .i64 m) .i64 _ = _
      rw [asInt_int]
      show V.asInt (.int .i64 e) .i64 _ = _
      rw [asInt_int, he]; rfl
  | false =>
    rw [cond_false]
    simp only [asSl_sl]
    rw [ref02_in_is _ _ (by decide), keysL_is]
    simp only [Option.bind_some, onRet_ret, asBool_bool]
    cases hk : isKeyL (word l) with
    | true => exact ⟨⟨3, word l, 0, 0⟩, (word l).length, rfl, .inr (.inl ⟨by simp, by simp, rfl, rfl⟩)⟩
    | false =>
      rw [cond_false, ref02_IsName_is _ (by rw [B_size]; omega)]
      simp only [Option.bind_some, onRet_ret, asBool_bool]
      cases hn : isName (B (word l)) with
      | true => exact ⟨⟨1, word l, 0, 0⟩, (word l).length, rfl, .inr (.inr (.inl ⟨by simp, by simp, by simp, rfl, rfl⟩))⟩
      | false => exact ⟨tk0, 0, by rw [cond_false, hloop], .inr (.inr (.inr ⟨by simp, by simp, by simp, rfl, rfl⟩))⟩
end Go.Proofs.YtenpcpfkiniggaaDoor
