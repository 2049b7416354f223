/- What the functions of the first lexing layer answer. Own work. -/
import Derived.Test.YtenpcpfkiniggaaDoorPxA
import Derived.Test.YtenpcpfkiniggaaDoorR1
namespace Go.Proofs.YtenpcpfkiniggaaDoor
open Go Go.Proofs.Ab Go.Proofs.Px
set_option linter.unusedVariables false
set_option linter.unusedSimpArgs false

theorem sz_str : sz (Pg.P Sp) 9 = 1 := by kernel_rfl
theorem lex_letter_is (c : Int) : den Sp lex_letter.id [.int .u8 c] [] none = some ⟨.ret (.bool (letter c)), [], none⟩ := by
  rw [lex_letter.eq]
  unfold letter
  by_cases h1 : 65 ≤ c <;> by_cases h2 : c ≤ 90 <;> by_cases h3 : 97 ≤ c <;> simp [h1, h2, h3]
theorem lex_digit_is (c : Int) : den Sp lex_digit.id [.int .u8 c] [] none = some ⟨.ret (.bool (digit c)), [], none⟩ := by
  rw [lex_digit.eq]
  unfold digit
  by_cases h1 : 48 ≤ c <;> simp [h1]
theorem lex_inner_is (c : Int) : den Sp lex_inner.id [.int .u8 c] [] none = some ⟨.ret (.bool (inner c)), [], none⟩ := by
  rw [lex_inner.eq, lex_letter_is, lex_digit_is]
  unfold inner
  cases letter c <;> cases digit c <;> simp
theorem lex_isKey_is (s : ByteArray) : den Sp lex_isKey.id [.str s] [] none = some ⟨.ret (.bool (isKey s)), [], none⟩ := by
  rw [lex_isKey.eq]
  have key : ∀ i : Nat, i ≤ 13 → lex_isKey.L1_0_1_0 s (i : Int) = some ⟨.ret (.bool (isIn s (keys.drop i))), [], none⟩ := by
    refine down ?_ fun i hi ih => ?_
    · rw [lex_isKey.L1_0_1_0_eq]; rfl
    · rw [lex_isKey.L1_0_1_0_eq, wrap_nat (by omega), ih, isIn_step (show i < keys.length from hi)]
      have h1 : ((i : Int) < 13) := by omega
      have h2 : ((0 : Int) ≤ i ∧ (i : Int) < ((13 : Nat) : Int)) := by omega
      rw [show (decide ((i : Int) < 13)) = true by simp [h1], cond_true, if_pos h2, sz_str]
      have hi' : i < keys.length := hi
      have h3 : (keys.map V.str).getD ((Int.toNat (i : Int)) * 1 + 0) V.undef = V.str (keys[i]'hi') := by
        rw [List.getD_eq_getElem?_getD, List.getElem?_map, show Int.toNat (i : Int) * 1 + 0 = i by simp, List.getElem?_eq_getElem hi']
        rfl
      refine (congrArg (fun v => V.asStr v _) h3).trans ?_
      rw [asStr_str]
      generalize keys[i]'hi' = kk
      by_cases he : s = kk
      · subst he; simp
      · have he' : ¬ kk = s := fun h => he h.symm
        simp [he, he']
  exact key 0 (by omega)
theorem lex_IsName_is (s : ByteArray) (hs : s.size < 4611686018427387904) : den Sp lex_IsName.id [.str s] [] none = some ⟨.ret (.bool (isName s)), [], none⟩ := by
  rw [lex_IsName.eq, lex_letter_is, lex_isKey_is]
  have key : ∀ i : Nat, i ≤ s.size → lex_IsName.L1_1_0_1_0 s (s.size : Int) (i : Int) = some ⟨.ret (.bool (allF (fun i => inner (byteAt s i)) s.size i)), [], none⟩ := by
    refine down ?_ fun i hi ih => ?_
    · rw [lex_IsName.L1_1_0_1_0_eq, allF_end]; simp
    · rw [lex_IsName.L1_1_0_1_0_eq, wrap_nat (by omega), ih, lex_inner_is, allF_step hi]
      have h1 : ((i : Int) < (s.size : Int)) := by omega
      cases hin : inner (byteAt s i) <;> simp [hi, hin]
  unfold isName
  by_cases h0 : s = ⟨#[]⟩
  · subst h0; rfl
  · have hsz : 0 < s.size := by
      rcases Nat.eq_zero_or_pos s.size with h | h
      · exact absurd ((empty_iff s).2 h) h0
      · exact h
    by_cases h1 : 40 < s.size
    · have h1' : ¬ s.size ≤ 40 := by omega
      have h3 : ((s.size : Int) > 40) := by omega
      simp [h0, h1', h3]
    · have h1' : s.size ≤ 40 := by omega
      have h2 : ¬ ((s.size : Int) > 40) := by omega
      have hk := key 0 (by omega)
      rw [show ((0 : Nat) : Int) = (0 : Int) from rfl] at hk
      cases hl : letter (byteAt s 0) <;> cases hq : isKey s <;> simp [h0, h1', h2, hsz, hl, hq, hk]
theorem ref02_between_is (a b c : Int) : den Sp ref02_between.id [.int .u8 a, .int .u8 b, .int .u8 c] [] none = some ⟨.ret (.bool (decide (b ≤ a) && decide (a ≤ c))), [], none⟩ := by
  rw [ref02_between.eq]
  by_cases h1 : b ≤ a <;> simp [h1]
theorem ref02_letter_is (c : Int) : den Sp ref02_letter.id [.int .u8 c] [] none = some ⟨.ret (.bool (letter c)), [], none⟩ := by
  rw [ref02_letter.eq, ref02_between_is, ref02_between_is]
  unfold letter
  by_cases h1 : 65 ≤ c <;> by_cases h2 : c ≤ 90 <;> by_cases h3 : 97 ≤ c <;> simp [h1, h2, h3]
theorem ref02_digit_is (c : Int) : den Sp ref02_digit.id [.int .u8 c] [] none = some ⟨.ret (.bool (digit c)), [], none⟩ := by
  rw [ref02_digit.eq, ref02_between_is]
  simp [digit]
theorem ref02_inner_is (c : Int) : den Sp ref02_inner.id [.int .u8 c] [] none = some ⟨.ret (.bool (inner c)), [], none⟩ := by
  rw [ref02_inner.eq, ref02_letter_is, ref02_digit_is]
  unfold inner
  cases letter c <;> cases digit c <;> simp
theorem ref02_Keys_is : den Sp ref02_Keys.id [] [] none = some ⟨.ret (.sl .no T_string (keys.map fun k => [.str k])), [], none⟩ := ref02_Keys.eq
theorem ref02_in_is (s : ByteArray) (l : List ByteArray) (hl : l.length < 4611686018427387904) : den Sp ref02_in.id [.str s, .sl .no T_string (l.map fun k => [.str k])] [] none = some ⟨.ret (.bool (isIn s l)), [], none⟩ := by
  rw [ref02_in.eq]
  have key : ∀ i : Nat, i ≤ l.length → ref02_in.L1_0_1_0 s (l.map fun k => [V.str k]) (i : Int) = some ⟨.ret (.bool (isIn s (l.drop i))), [], none⟩ := by
    refine down ?_ fun i hi ih => ?_
    · rw [ref02_in.L1_0_1_0_eq]; simp [isIn]
    · rw [ref02_in.L1_0_1_0_eq, wrap_nat (by omega), ih, isIn_step hi]
      have h3 : (List.getD (List.getD (l.map fun k => [V.str k]) (Int.toNat (i : Int)) []) 0 V.undef) = V.str l[i] := by
        simp [List.getD_eq_getElem?_getD, hi]
      rw [h3]
      by_cases he : l[i] = s
      · simp [hi, he]
      · simp [hi, he]
  exact key 0 (by omega)
theorem ref02_IsName_is (s : ByteArray) (hs : s.size < 4611686018427387904) : den Sp ref02_IsName.id [.str s] [] none = some ⟨.ret (.bool (isName s)), [], none⟩ := by
  rw [ref02_IsName.eq]
  have key : ∀ i : Nat, i ≤ s.size → ref02_IsName.L1_0_1_0 s (i : Int) = some ⟨.ret (.bool (decide (0 < s.size) && decide (s.size ≤ 40) && letter (byteAt s 0) && !isKey s && allF (fun i => inner (byteAt s i)) s.size i)), [], none⟩ := by
    refine down ?_ fun i hi ih => ?_
    · rw [ref02_IsName.L1_0_1_0_eq, allF_end, ref02_Keys_is, ref02_letter_is]
      simp only [Option.bind_some, onRet_ret, asBool_bool, asSl_sl, ref02_in_is s keys (by decide)]
      by_cases h0 : 0 < s.size
      · by_cases h1 : s.size ≤ 40
        · have h2 : (s.size : Int) ≤ 40 := by omega
          have h3 : (0 : Int) < s.size := by omega
          cases hl : letter (byteAt s 0) <;> simp [h0, h1, h2, h3, isKey]
        · have h2 : ¬ (s.size : Int) ≤ 40 := by omega
          have h3 : (0 : Int) < s.size := by omega
          simp [h0, h1, h2, h3]
      · have h3 : ¬ (0 : Int) < s.size := by omega
        simp [h0, h3]
    · rw [ref02_IsName.L1_0_1_0_eq, wrap_nat (by omega), ih, ref02_inner_is, allF_step hi]
      cases hin : inner (byteAt s i) <;> simp [hi, hin]
  exact key 0 (by omega)
end Go.Proofs.YtenpcpfkiniggaaDoor
