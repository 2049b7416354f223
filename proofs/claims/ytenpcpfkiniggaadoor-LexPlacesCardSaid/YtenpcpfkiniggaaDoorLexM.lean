/- The reference's numbers, by their binary digits. Own work. -/
import Derived.Test.YtenpcpfkiniggaaDoorPxBits
import Derived.Test.YtenpcpfkiniggaaDoorLexN
namespace Go.Proofs.YtenpcpfkiniggaaDoor
open Go Go.Proofs.Ab Go.Proofs.Px
set_option linter.unusedVariables false
set_option linter.unusedSimpArgs false

/-- What is left of a number by 2 to the 64. -/
def u64 (n : Int) : Nat := (n % 18446744073709551616).toNat
theorem u64_wrap (n : Int) : IntKind.wrap IntKind.u64 n = ((u64 n : Nat) : Int) := by rw [IntKind.wrap_u64]; unfold u64; omega
theorem u64_lt (n : Int) : u64 n < 18446744073709551616 := by unfold u64; omega
theorem two64 : (2 : Nat) ^ 64 = 18446744073709551616 := by decide
theorem ref01_Bits_is (n : Int) : den Sp ref01_Bits.id [.int .i64 n] [] none = some ⟨.ret (.sl .no T_int (bitRow (u64 n))), [], none⟩ := by
  rw [ref01_Bits.eq]
  have key : ∀ i : Nat, i ≤ 64 → ref01_Bits.L1_1_0_1_0 n (bitsTo (u64 n) i) (i : Int) = some ⟨.ret (.sl .no T_int (bitRow (u64 n))), [], none⟩ := by
    refine down ?_ fun i hi ih => ?_
    · rw [ref01_Bits.L1_1_0_1_0_eq]; rfl
    · have e1 : IntKind.wrap IntKind.u64 (i : Int) = (i : Int) := by rw [IntKind.wrap_u64]; omega
      have e2 : Min.min (Int.toNat (i : Int)) 64 = i := by rw [Int.toNat_natCast]; omega
      have e3 : ¬ ((i : Int) < 0) := by omega
      have e4 : ((i : Int) < 64) := by omega
      have e5 : Int.fdiv ((u64 n : Nat) : Int) ((2 : Int) ^ i) = ((u64 n / 2 ^ i : Nat) : Int) := by
        rw [Int.fdiv_eq_ediv_of_nonneg _ (Int.le_of_lt (Int.pow_pos (by omega)))]
        rw [Int.natCast_ediv, Int.natCast_pow]; rfl
      have e6 : IntKind.wrap IntKind.i64 (Int.tmod ((u64 n / 2 ^ i : Nat) : Int) 2) = ((bit (u64 n) i : Nat) : Int) := by
        have := bit_lt (u64 n) i
        rw [Int.tmod_eq_emod_of_nonneg (Int.natCast_nonneg _)]
        unfold bit at *
        generalize u64 n / 2 ^ i = y at *
        rw [wrap_in (by omega) (by omega)]; omega
      rw [ref01_Bits.L1_1_0_1_0_eq, e1, e2, if_neg e3, decide_eq_true e4, cond_true, u64_wrap, e5, e6, bitsTo_len, if_pos (one_most (by omega)), ← bitsTo_succ, wrap_nat (by omega), ih]
  exact key 0 (by omega)
theorem ref01_number_is (x : Nat) : den Sp ref01_number.id [.sl .no T_int (bitRow x)] [] none = some ⟨.ret (.int .i64 (IntKind.i64.wrap ((x % 2 ^ 64 : Nat) : Int))), [], none⟩ := by
  rw [← bits_mod]
  have hx : x % 2 ^ 64 < 2 ^ 64 := Nat.mod_lt _ (by decide)
  generalize x % 2 ^ 64 = y at hx
  rw [ref01_number.eq]
  have key : ∀ i : Nat, i ≤ 64 → ref01_number.L1_1_0_1_0 (bitRow y) ((y / 2 ^ i : Nat) : Int) ((i : Int) - 1) = some ⟨.ret (.int .i64 (IntKind.i64.wrap (y : Int))), [], none⟩ := by
    intro i
    induction i with
    | zero =>
      intro _
      rw [ref01_number.L1_1_0_1_0_eq, Nat.pow_zero, Nat.div_one]; rfl
    | succ i ih =>
      intro hi
      have e1 : (((i + 1 : Nat) : Int) - 1) = (i : Int) := by omega
      have e2 : ((i : Int) ≥ 0) := by omega
      have hb : bitRow y = bitsTo y 64 := rfl
      have e3 : (0 : Int) ≤ (i : Int) ∧ (i : Int) < (((bitRow y).length : Nat) : Int) := by rw [hb, bitsTo_len]; omega
      have hbl := bit_lt y i
      have e4 : IntKind.wrap IntKind.u64 ((IntKind.wrap IntKind.u64 (((y / 2 ^ (i + 1) : Nat) : Int) * 2)) + (IntKind.wrap IntKind.u64 ((bit y i : Nat) : Int))) = ((y / 2 ^ i : Nat) : Int) := by
        have h1 := half y i
        have h2 : y / 2 ^ i ≤ y := Nat.div_le_self ..
        rw [two64] at hx
        rw [IntKind.wrap_u64, IntKind.wrap_u64, IntKind.wrap_u64]
        omega
      have e5 : IntKind.wrap IntKind.i64 ((i : Int) - 1) = (i : Int) - 1 := wrap_in (by omega) (by omega)
      rw [ref01_number.L1_1_0_1_0_eq, e1, decide_eq_true e2, cond_true, if_pos e3, Int.toNat_natCast, bits_at (by omega), asInt_int, e4, e5]
      exact ih (by omega)
  have := key 64 (by omega)
  rw [Nat.div_eq_of_lt hx] at this
  exact this
theorem ref01_other_is (x : Nat) (hx : x < 2 ^ 64) : den Sp ref01_other.id [.sl .no T_int (bitRow x)] [] none = some ⟨.ret (.sl .no T_int (bitRow (2 ^ 64 - (x + 1)))), [], none⟩ := by
  rw [ref01_other.eq]
  have hlen : (bitRow x).length = 64 := bitsTo_len x 64
  have key : ∀ i : Nat, i ≤ 64 → ref01_other.L1_1_0_1_0 (bitRow x) (bitsTo (2 ^ 64 - (x + 1)) i) (i : Int) = some ⟨.ret (.sl .no T_int (bitRow (2 ^ 64 - (x + 1)))), [], none⟩ := by
    refine down ?_ fun i hi ih => ?_
    · rw [ref01_other.L1_1_0_1_0_eq, hlen]; rfl
    · have e1 : ((i : Int) < ((64 : Nat) : Int)) := by omega
      have e2 : (0 : Int) ≤ (i : Int) ∧ (i : Int) < ((64 : Nat) : Int) := by omega
      have hbl := bit_lt x i
      have e3 : IntKind.wrap IntKind.i64 ((1 : Int) - ((bit x i : Nat) : Int)) = ((bit (2 ^ 64 - (x + 1)) i : Nat) : Int) := by
        rw [bit_other hx hi, wrap_in (by omega) (by omega)]; omega
      rw [ref01_other.L1_1_0_1_0_eq, hlen, decide_eq_true e1, cond_true, if_pos e2, Int.toNat_natCast, bits_at hi, asInt_int, e3, bitsTo_len, if_pos (one_most (by omega)), ← bitsTo_succ, wrap_nat (by omega), ih]
  exact key 0 (by omega)
theorem ref01_plus_is (a b c : Nat) (hc : c ≤ 1) : den Sp ref01_plus.id [.sl .no T_int (bitRow a), .sl .no T_int (bitRow b), .int .i64 (c : Int)] [] none = some ⟨.ret (.sl .no T_int (bitRow (a + b + c))), [], none⟩ := by
  rw [ref01_plus.eq]
  have hlen : ∀ x, (bitRow x).length = 64 := fun x => bitsTo_len x 64
  have key : ∀ i : Nat, i ≤ 64 → ref01_plus.L1_1_0_1_0 (bitRow a) (bitRow b) ((carry a b c i : Nat) : Int) (bitsTo (a + b + c) i) (i : Int) = some ⟨.ret (.sl .no T_int (bitRow (a + b + c))), [], none⟩ := by
    refine down ?_ fun i hi ih => ?_
    · rw [ref01_plus.L1_1_0_1_0_eq]; rfl
    · have e1 : ((i : Int) < 64) := by omega
      have e2 : (0 : Int) ≤ (i : Int) ∧ (i : Int) < ((64 : Nat) : Int) := by omega
      have h1 := bit_lt a i
      have h2 := bit_lt b i
      have h3 := carry_lt (a := a) (b := b) (i := i) hc
      have e3 : IntKind.wrap IntKind.i64 ((IntKind.wrap IntKind.i64 (((bit a i : Nat) : Int) + ((bit b i : Nat) : Int))) + ((carry a b c i : Nat) : Int)) = ((bit a i + bit b i + carry a b c i : Nat) : Int) := by
        rw [wrap_in (n := ((bit a i : Nat) : Int) + ((bit b i : Nat) : Int)) (by omega) (by omega), wrap_in (by omega) (by omega)]; omega
      have e4 : Int.tmod ((bit a i + bit b i + carry a b c i : Nat) : Int) 2 = ((bit (a + b + c) i : Nat) : Int) := by
        rw [Int.tmod_eq_emod_of_nonneg (by omega), carry_bit]; omega
      have e5 : IntKind.wrap IntKind.i64 (Int.tdiv ((bit a i + bit b i + carry a b c i : Nat) : Int) 2) = ((carry a b c (i + 1) : Nat) : Int) := by
        rw [Int.tdiv_eq_ediv_of_nonneg (by omega), carry_succ, wrap_in (by omega) (by omega)]; omega
      rw [ref01_plus.L1_1_0_1_0_eq, hlen, hlen, decide_eq_true e1, cond_true, if_pos e2, Int.toNat_natCast, bits_at hi, asInt_int, if_pos e2, bits_at hi, asInt_int, e3, e4, e5, bitsTo_len, if_pos (one_most (by omega)), ← bitsTo_succ, wrap_nat (by omega), ih]
  have := key 0 (by omega)
  rw [carry_zero] at this
  exact this
theorem ref01_Sub_is (a b : Int) : den Sp ref01_Sub.id [.int .i64 a, .int .i64 b] [] none = some ⟨.ret (.int .i64 (IntKind.i64.wrap (a - b))), [], none⟩ := by
  have hb := u64_lt b
  rw [ref01_Sub.eq, ref01_Bits_is, ref01_Bits_is]
  simp only [Option.bind_some, onRet_ret, asSl_sl]
  rw [ref01_other_is _ (by rw [two64]; exact hb)]
  simp only [Option.bind_some, onRet_ret, asSl_sl]
  have hp := ref01_plus_is (u64 a) (2 ^ 64 - (u64 b + 1)) 1 (by omega)
  rw [show (((1 : Nat) : Int)) = (1 : Int) from rfl] at hp
  rw [hp]
  simp only [Option.bind_some, onRet_ret, asSl_sl]
  rw [ref01_number_is]
  simp only [Option.bind_some, onRet_ret, asInt_int]
  congr 4
  rw [IntKind.wrap_i64, IntKind.wrap_i64, two64]
  unfold u64
  omega
theorem ref01_Neg_is (a : Int) : den Sp ref01_Neg.id [.int .i64 a] [] none = some ⟨.ret (.int .i64 (IntKind.i64.wrap (-a))), [], none⟩ := by
  rw [ref01_Neg.eq, ref01_Sub_is]
  simp only [Option.bind_some, onRet_ret, asInt_int]
  rw [Int.zero_sub]
theorem ref01_size_is (a : Int) (h0 : -9223372036854775808 ≤ a) (h1 : a ≤ 9223372036854775807) : den Sp ref01_size.id [.int .i64 a] [] none = some ⟨.ret (.int .u64 ((a.natAbs : Nat) : Int)), [], none⟩ := by
  rw [ref01_size.eq]
  by_cases ha : a < 0
  · rw [decide_eq_true ha, cond_true, ref01_Neg_is]
    simp only [Option.bind_some, onRet_ret, asInt_int]
    congr 4
    rw [IntKind.wrap_i64, IntKind.wrap_u64]; omega
  · rw [decide_eq_false ha, cond_false]
    congr 4
    rw [IntKind.wrap_u64]; omega
theorem rtext_loop (n : Int) (f : Nat) : ∀ (u : Nat) (acc : List UInt8), u < 10 ^ f → u < 18446744073709551616 → 0 < f → acc.length + f ≤ 100 → (acc = [] ∨ 0 < u) →
    ref01_Text.L1_1_1_0_0 n (B acc) (u : Int) = ref01_Text.L1_1_1_0_0 n (B (decGo f u acc)) 0 := by
  induction f with
  | zero => intro _ _ _ _ h; omega
  | succ f ih =>
    intro u acc hu hu6 _ ha hz
    have one : toBytes [[V.int IntKind.u8 ((dgt u).toNat : Int)]] = [dgt u] := toBytes_bv [dgt u]
    have step : ref01_Text.L1_1_1_0_0 n (B acc) (u : Int) = ref01_Text.L1_1_1_0_0 n (B (dgt u :: acc)) ((u / 10 : Nat) : Int) := by
      rw [ref01_Text.L1_1_1_0_0_eq, dgt_w, div_w u hu6, one]
      have e1 : (ByteArray.mk [dgt u].toArray).size + (B acc).size ≤ most := by
        rw [B_size]
        show 1 + acc.length ≤ 1099511627776
        omega
      have e2 : ByteArray.mk [dgt u].toArray ++ B acc = B (dgt u :: acc) := B_append [dgt u] acc
      rw [if_pos e1, e2, B_nil, B_dec]
      by_cases h : acc = []
      · rw [decide_eq_true h, cond_true]
      · have h3 : ((u : Int) > 0) := by
          rcases hz with hz | hz
          · exact absurd hz h
          · omega
        rw [decide_eq_false h, cond_false, decide_eq_true h3, cond_true]
    rw [step]
    unfold decGo
    by_cases h0 : u / 10 = 0
    · rw [if_pos h0, h0]; rfl
    · have h1 : u / 10 < 10 ^ f := by
        rw [Nat.pow_succ] at hu
        omega
      have hf0 : 0 < f := by
        rcases Nat.eq_zero_or_pos f with rfl | h2
        · simp at h1; omega
        · exact h2
      rw [if_neg h0]
      refine ih (u / 10) (dgt u :: acc) h1 (by omega) hf0 ?_ (.inr (by omega))
      simp only [List.length_cons]
      omega
theorem ref01_Text_is (n : Int) (h0 : -9223372036854775808 ≤ n) (h1 : n ≤ 9223372036854775807) : den Sp ref01_Text.id [.int .i64 n] [] none = some ⟨.ret (.str (B (decs n))), [], none⟩ := by
  have h19 : (10 : Nat) ^ 19 = 10000000000000000000 := by decide
  have hb : n.natAbs < 10 ^ 19 := by rw [h19]; omega
  have hne := decGo_ne 19 n.natAbs [] (by omega)
  have hln := decGo_len 19 n.natAbs []
  have hl := rtext_loop n 19 n.natAbs [] hb (by omega) (by omega) (by simp) (.inl rfl)
  rw [ref01_Text.eq, ref01_size_is n h0 h1]
  simp only [Option.bind_some, onRet_ret, asInt_int]
  rw [B_nil, hl, ref01_Text.L1_1_1_0_0_eq, B_nil, B_dec, decide_eq_false hne, cond_false]
  have h3 : decide ((0 : Int) > 0) = false := rfl
  rw [h3, cond_false, B_size]
  unfold decs
  rw [dec_of 19 n.natAbs hb (by omega) (by omega)]
  by_cases hn : n < 0
  · have h4 : 1 + (decGo 19 n.natAbs []).length ≤ most := by
      show 1 + (decGo 19 n.natAbs []).length ≤ 1099511627776
      simp at hln; omega
    have h5 : ByteArray.mk #[45] ++ B (decGo 19 n.natAbs []) = B (45 :: decGo 19 n.natAbs []) := B_append [45] _
    rw [decide_eq_true hn, cond_true, if_pos h4, h5, if_pos hn]
  · rw [decide_eq_false hn, cond_false, if_neg hn]
end Go.Proofs.YtenpcpfkiniggaaDoor
