/- The reference's numbers, by their binary digits. Own work. -/
import Derived.Test.YtipjanijidbelaaPxBits
import Derived.Test.YtipjanijidbelaaPxDec
import Derived.Test.YtipjanijidbelaaRNum
namespace Go.Proofs.Ytipjanijidbelaa
open Go Go.Proofs.Ab Go.Proofs.Px
set_option linter.unusedVariables false
set_option linter.unusedSimpArgs false

/-- What is left of a number by 2 to the 64. -/
def u64 (n : Int) : Nat := (n % 18446744073709551616).toNat
theorem u64_wrap (n : Int) : IntKind.wrap IntKind.u64 n = ((u64 n : Nat) : Int) := by rw [IntKind.wrap_u64]; unfold u64; omega
theorem u64_lt (n : Int) : u64 n < 18446744073709551616 := by unfold u64; omega
theorem two64 : (2 : Nat) ^ 64 = 18446744073709551616 := by decide
theorem ref01_Bits_is (n : Int) : den Sp ref01_Bits.id [.int .i64 n] [] none = some ⟨.ret (.sl .no T_int (bitRow (u64 n))), [], none⟩ := by
  rw [ref01_Bits.eq]
  have key : ∀ i : Nat, i ≤ 64 → ref01_Bits.L1_1_0_1_0 n (bitsTo (u64 n) i) (i : Int) = some ⟨.ret (.sl .no T_int (bitRow (u64 n))), [], none⟩ := by
    refine down ?_ fun i hi ih => ?_
    · rw [ref01_Bits.L1_1_0_1_0_eq]; rfl
    · have e1 : IntKind.wrap IntKind.u64 (i : Int) = (i : Int) := by rw [IntKind.wrap_u64]; omega
      have e2 : Min.min (Int.toNat (i : Int)) 64 = i := by rw [Int.toNat_natCast]; omega
      have e3 : ¬ ((i : Int) < 0) := by omega
      have e4 : ((i : Int) < 64) := by omega
      have e5 : Int.fdiv ((u64 n : Nat) : Int) ((2 : Int) ^ i) = ((u64 n / 2 ^ i : Nat) : Int) := by
        rw [Int.fdiv_eq_ediv_of_nonneg _ (Int.le_of_lt (Int.pow_pos (by omega)))]
        rw [Int.natCast_ediv, Int.natCast_pow]; rfl
      have e6 : IntKind.wrap IntKind.i64 (Int.tmod ((u64 n / 2 ^ i : Nat) : Int) 2) = ((bit (u64 n) i : Nat) : Int) := by
        have := bit_lt (u64 n) i
        rw [Int.tmod_eq_emod_of_nonneg (Int.natCast_nonneg _)]
        unfold bit at *
        generalize u64 n / 2 ^ i = y at *
        rw [wrap_in (by omega) (by omega)]; omega
      rw [ref01_Bits.L1_1_0_1_0_eq, e1, e2, if_neg e3, decide_eq_true e4, cond_true, u64_wrap, e5, e6, bitsTo_len, if_pos (one_most (by omega)), ← bitsTo_succ, wrap_nat (by omega), ih]
  exact key 0 (by omega)
theorem ref01_number_is (x : Nat) : den Sp ref01_number.id [.sl .no T_int (bitRow x)] [] none = some ⟨.ret (.int .i64 (IntKind.i64.wrap ((x % 2 ^ 64 : Nat) : Int))), [], none⟩ := by
  rw [← bits_mod]
  have hx : x % 2 ^ 64 < 2 ^ 64 := Nat.mod_lt _ (by decide)
  generalize x % 2 ^ 64 = y at hx
  rw [ref01_number.eq]
  have key : ∀ i : Nat, i ≤ 64 → ref01_number.L1_1_0_1_0 (bitRow y) ((y / 2 ^ i : Nat) : Int) ((i : Int) - 1) = some ⟨.ret (.int .i64 (IntKind.i64.wrap (y : Int))), [], none⟩ := by
    intro i
    induction i with
    | zero =>
      intro _
      rw [ref01_number.L1_1_0_1_0_eq, Nat.pow_zero, Nat.div_one]; rfl
    | succ i ih =>
      intro hi
      have e1 : (((i + 1 : Nat) : Int) - 1) = (i : Int) := by omega
      have e2 : ((i : Int) ≥ 0) := by omega
      have hb : bitRow y = bitsTo y 64 := rfl
      have e3 : (0 : Int) ≤ (i : Int) ∧ (i : Int) < (((bitRow y).length : Nat) : Int) := by rw [hb, bitsTo_len]; omega
      have hbl := bit_lt y i
      have e4 : IntKind.wrap IntKind.u64 ((IntKind.wrap IntKind.u64 (((y / 2 ^ (i + 1) : Nat) : Int) * 2)) + (IntKind.wrap IntKind.u64 ((bit y i : Nat) : Int))) = ((y / 2 ^ i : Nat) : Int) := by
        have h1 := half y i
        have h2 : y / 2 ^ i ≤ y := Nat.div_le_self ..
        rw [two64] at hx
        rw [IntKind.wrap_u64, IntKind.wrap_u64, IntKind.wrap_u64]
        omega
      have e5 : IntKind.wrap IntKind.i64 ((i : Int) - 1) = (i : Int) - 1 := wrap_in (by omega) (by omega)
      rw [ref01_number.L1_1_0_1_0_eq, e1, decide_eq_true e2, cond_true, if_pos e3, Int.toNat_natCast, bits_at (by omega), asInt_int, e4, e5]
      exact ih (by omega)
  have := key 64 (by omega)
  rw [Nat.div_eq_of_lt hx] at this
  exact this
theorem ref01_other_is (x : Nat) (hx : x < 2 ^ 64) : den Sp ref01_other.id [.sl .no T_int (bitRow x)] [] none = some ⟨.ret (.sl .no T_int (bitRow (2 ^ 64 - (x + 1)))), [], none⟩ := by
  rw [ref01_other.eq]
  have hlen : (bitRow x).length = 64 := bitsTo_len x 64
  have key : ∀ i : Nat, i ≤ 64 → ref01_other.L1_1_0_1_0 (bitRow x) (bitsTo (2 ^ 64 - (x + 1)) i) (i : Int) = some ⟨.ret (.sl .no T_int (bitRow (2 ^ 64 - (x + 1)))), [], none⟩ := by
    refine down ?_ fun i hi ih => ?_
    · rw [ref01_other.L1_1_0_1_0_eq, hlen]; rfl
    · have e1 : ((i : Int) < ((64 : Nat) : Int)) := by omega
      have e2 : (0 : Int) ≤ (i : Int) ∧ (i : Int) < ((64 : Nat) : Int) := by omega
      have hbl := bit_lt x i
      have e3 : IntKind.wrap IntKind.i64 ((1 : Int) - ((bit x i : Nat) : Int)) = ((bit (2 ^ 64 - (x + 1)) i : Nat) : Int) := by
        rw [bit_other hx hi, wrap_in (by omega) (by omega)]; omega
      rw [ref01_other.L1_1_0_1_0_eq, hlen, decide_eq_true e1, cond_true, if_pos e2, Int.toNat_natCast, bits_at hi, asInt_int, e3, bitsTo_len, if_pos (one_most (by omega)), ← bitsTo_succ, wrap_nat (by omega), ih]
  exact key 0 (by omega)
theorem ref01_plus_is (a b c : Nat) (hc : c ≤ 1) : den Sp ref01_plus.id [.sl .no T_int (bitRow a), .sl .no T_int (bitRow b), .int .i64 (c : Int)] [] none = some ⟨.ret (.sl .no T_int (bitRow (a + b + c))), [], none⟩ := by
  rw [ref01_plus.eq]
  have hlen : ∀ x, (bitRow x).length = 64 := fun x => bitsTo_len x 64
  have key : ∀ i : Nat, i ≤ 64 → ref01_plus.L1_1_0_1_0 (bitRow a) (bitRow b) ((carry a b c i : Nat) : Int) (bitsTo (a + b + c) i) (i : Int) = some ⟨.ret (.sl .no T_int (bitRow (a + b + c))), [], none⟩ := by
    refine down ?_ fun i hi ih => ?_
    · rw [ref01_plus.L1_1_0_1_0_eq]; rfl
    · have e1 : ((i : Int) < 64) := by omega
      have e2 : (0 : Int) ≤ (i : Int) ∧ (i : Int) < ((64 : Nat) : Int) := by omega
      have h1 := bit_lt a i
      have h2 := bit_lt b i
      have h3 := carry_lt (a := a) (b := b) (i := i) hc
      have e3 : IntKind.wrap IntKind.i64 ((IntKind.wrap IntKind.i64 (((bit a i : Nat) : Int) + ((bit b i : Nat) : Int))) + ((carry a b c i : Nat) : Int)) = ((bit a i + bit b i + carry a b c i : Nat) : Int) := by
        rw [wrap_in (n := ((bit a i : Nat) : Int) + ((bit b i : Nat) : Int)) (by omega) (by omega), wrap_in (by omega) (by omega)]; omega
      have e4 : Int.tmod ((bit a i + bit b i + carry a b c i : Nat) : Int) 2 = ((bit (a + b + c) i : Nat) : Int) := by
        rw [Int.tmod_eq_emod_of_nonneg (by omega), carry_bit]; omega
      have e5 : IntKind.wrap IntKind.i64 (Int.tdiv ((bit a i + bit b i + carry a b c i : Nat) : Int) 2) = ((carry a b c (i + 1) : Nat) : Int) := by
        rw [Int.tdiv_eq_ediv_of_nonneg (by omega), carry_succ, wrap_in (by omega) (by omega)]; omega
      rw [ref01_plus.L1_1_0_1_0_eq, hlen, hlen, decide_eq_true e1, cond_true, if_pos e2, Int.toNat_natCast, bits_at hi, asInt_int, if_pos e2, bits_at hi, asInt_int, e3, e4, e5, bitsTo_len, if_pos (one_most (by omega)), ← bitsTo_succ, wrap_nat (by omega), ih]
  have := key 0 (by omega)
  rw [carry_zero] at this
  exact this
theorem ref01_Sub_is (a b : Int) : den Sp ref01_Sub.id [.int .i64 a, .int .i64 b] [] none = some ⟨.ret (.int .i64 (IntKind.i64.wrap (a - b))), [], none⟩ := by
  have hb := u64_lt b
  rw [ref01_Sub.eq, ref01_Bits_is, ref01_Bits_is]
  simp only [Option.bind_some, onRet_ret, asSl_sl]
  rw [ref01_other_is _ (by rw [two64]; exact hb)]
  simp only [Option.bind_some, onRet_ret, asSl_sl]
  have hp := ref01_plus_is (u64 a) (2 ^ 64 - (u64 b + 1)) 1 (by omega)
  rw [show (((1 : Nat) : Int)) = (1 : Int) from rfl] at hp
  rw [hp]
  simp only [Option.bind_some, onRet_ret, asSl_sl]
  rw [ref01_number_is]
  simp only [Option.bind_some, onRet_ret, asInt_int]
  congr 4
  rw [IntKind.wrap_i64, IntKind.wrap_i64, two64]
  unfold u64
  omega
theorem ref01_Neg_is (a : Int) : den Sp ref01_Neg.id [.int .i64 a] [] none = some ⟨.ret (.int .i64 (IntKind.i64.wrap (-a))), [], none⟩ := by
  rw [ref01_Neg.eq, ref01_Sub_is]
  simp only [Option.bind_some, onRet_ret, asInt_int]
  rw [Int.zero_sub]
theorem ref01_size_is (a : Int) (h0 : -9223372036854775808 ≤ a) (h1 : a ≤ 9223372036854775807) : den Sp ref01_size.id [.int .i64 a] [] none = some ⟨.ret (.int .u64 ((a.natAbs : Nat) : Int)), [], none⟩ := by
  rw [ref01_size.eq]
  by_cases ha : a < 0
  · rw [decide_eq_true ha, cond_true, ref01_Neg_is]
    simp only [Option.bind_some, onRet_ret, asInt_int]
    congr 4
    rw [IntKind.wrap_i64, IntKind.wrap_u64]; omega
  · rw [decide_eq_false ha, cond_false]
    congr 4
    rw [IntKind.wrap_u64]; omega
theorem ref01_Add_is (a b : Int) : den Sp ref01_Add.id [.int .i64 a, .int .i64 b] [] none = some ⟨.ret (.int .i64 (IntKind.i64.wrap (a + b))), [], none⟩ := by
  rw [ref01_Add.eq, ref01_Bits_is, ref01_Bits_is]
  simp only [Option.bind_some, onRet_ret, asSl_sl]
  have hp := ref01_plus_is (u64 a) (u64 b) 0 (by omega)
  rw [show (((0 : Nat) : Int)) = (0 : Int) from rfl] at hp
  rw [hp]
  simp only [Option.bind_some, onRet_ret, asSl_sl]
  rw [ref01_number_is]
  simp only [Option.bind_some, onRet_ret, asInt_int]
  congr 4
  rw [IntKind.wrap_i64, IntKind.wrap_i64, two64]
  unfold u64
  omega
theorem wrap_mul (a b : Int) : IntKind.i64.wrap ((((u64 a * u64 b) % 2 ^ 64 : Nat) : Int)) = IntKind.i64.wrap (a * b) := by
  have h : ((((u64 a * u64 b) % 2 ^ 64 : Nat) : Int)) % 18446744073709551616 = (a * b) % 18446744073709551616 := by
    have h1 : ((u64 a : Nat) : Int) = a % 18446744073709551616 := by unfold u64; omega
    have h2 : ((u64 b : Nat) : Int) = b % 18446744073709551616 := by unfold u64; omega
    rw [two64, Int.natCast_emod, Int.natCast_mul, h1, h2]
    rw [show (((18446744073709551616 : Nat)) : Int) = 18446744073709551616 from rfl, Int.emod_emod, ← Int.mul_emod]
  rw [IntKind.wrap_i64, IntKind.wrap_i64]
  omega
theorem ref01_Mul_is (a b : Int) : den Sp ref01_Mul.id [.int .i64 a, .int .i64 b] [] none = some ⟨.ret (.int .i64 (IntKind.i64.wrap (a * b))), [], none⟩ := by
  rw [ref01_Mul.eq, ref01_Bits_is, ref01_Bits_is, ref01_Bits_is]
  simp only [Option.bind_some, onRet_ret, asSl_sl]
  have hb := u64_lt b
  have key : ∀ i : Nat, i ≤ 64 → ref01_Mul.L1_1_1_0_1_0 (bitRow (u64 a * (u64 b % 2 ^ i))) (bitRow (u64 a * 2 ^ i)) (bitRow (u64 b)) (i : Int) = some ⟨.ret (.int .i64 (IntKind.i64.wrap (a * b))), [], none⟩ := by
    refine down ?_ fun i hi ih => ?_
    · rw [ref01_Mul.L1_1_1_0_1_0_eq, decide_eq_false (by decide), cond_false, ref01_number_is, Nat.mod_eq_of_lt (show u64 b < 2 ^ 64 by rw [two64]; exact hb), wrap_mul]
      simp only [Option.bind_some, onRet_ret, asInt_int]
    · have e1 : ((i : Int) < 64) := by omega
      have hlen : (bitRow (u64 b)).length = 64 := bitsTo_len _ 64
      have e2 : (0 : Int) ≤ (i : Int) ∧ (i : Int) < ((64 : Nat) : Int) := by omega
      have hbl := bit_lt (u64 b) i
      have hx := ref01_plus_is (u64 a * 2 ^ i) (u64 a * 2 ^ i) 0 (by omega)
      rw [show (((0 : Nat) : Int)) = (0 : Int) from rfl, Nat.add_zero, show u64 a * 2 ^ i + u64 a * 2 ^ i = u64 a * 2 ^ (i + 1) by rw [Nat.pow_succ, ← Nat.mul_assoc]; omega] at hx
      have hs := ref01_plus_is (u64 a * (u64 b % 2 ^ i)) (u64 a * 2 ^ i) 0 (by omega)
      rw [show (((0 : Nat) : Int)) = (0 : Int) from rfl, Nat.add_zero] at hs
      rw [ref01_Mul.L1_1_1_0_1_0_eq, decide_eq_true e1, cond_true, hlen, if_pos e2, Int.toNat_natCast, bits_at hi, asInt_int, hx, hs]
      rw [low] at ih
      rcases (show bit (u64 b) i = 0 ∨ bit (u64 b) i = 1 by omega) with h0 | h0
      · rw [h0] at ih ⊢
        rw [Nat.mul_zero, Nat.add_zero] at ih
        simp only [show ((((0 : Nat) : Int)) == (1 : Int)) = false from rfl, cond_false, Option.bind_some, onRet_ret, asSl_sl]
        rw [wrap_nat (by omega)]; exact ih
      · rw [h0] at ih ⊢
        rw [Nat.mul_one, Nat.mul_add] at ih
        simp only [show ((((1 : Nat) : Int)) == (1 : Int)) = true from rfl, cond_true, Option.bind_some, onRet_ret, asSl_sl]
        rw [wrap_nat (by omega)]; exact ih
  have h0 := key 0 (by omega)
  rw [Nat.pow_zero, Nat.mod_one, Nat.mul_zero, Nat.mul_one] at h0
  exact h0
theorem part_step (x b : Nat) (hb : 0 < b) (c : Nat) (hc : c < 2) : (2 * x + c) / b = 2 * (x / b) + (if 2 * (x % b) + c ≥ b then 1 else 0) ∧ (2 * x + c) % b = (if 2 * (x % b) + c ≥ b then 2 * (x % b) + c - b else 2 * (x % b) + c) := by
  have h1 := Nat.div_add_mod x b
  have h2 := Nat.mod_lt x hb
  generalize hq : x / b = q at *
  generalize hr : x % b = r at *
  have h3 : 2 * x + c = b * (2 * q) + (2 * r + c) := by rw [← h1, Nat.mul_add, Nat.mul_left_comm]; omega
  by_cases h : 2 * r + c ≥ b
  · rw [if_pos h, if_pos h]
    have h4 : 2 * x + c = b * (2 * q + 1) + (2 * r + c - b) := by rw [h3, Nat.mul_add]; omega
    rw [h4]
    exact ⟨by rw [Nat.mul_add_div hb, Nat.div_eq_of_lt (by omega)], by rw [Nat.mul_add_mod]; exact Nat.mod_eq_of_lt (by omega)⟩
  · rw [if_neg h, if_neg h, h3]
    exact ⟨by rw [Nat.mul_add_div hb, Nat.div_eq_of_lt (by omega)], by rw [Nat.mul_add_mod]; exact Nat.mod_eq_of_lt (by omega)⟩
theorem ref01_parted_is (a b : Nat) (ha : a < 18446744073709551616) (hb : 0 < b) (hb2 : b ≤ 9223372036854775808) : den Sp ref01_parted.id [.int .u64 (a : Int), .int .u64 (b : Int)] [] none = some ⟨.ret (.tup [.int .u64 ((a / b : Nat) : Int), .int .u64 ((a % b : Nat) : Int)]), [], none⟩ := by
  rw [ref01_parted.eq]
  have key : ∀ i : Nat, i ≤ 64 → ref01_parted.L1_1_0_1_0 (a : Int) (b : Int) ((a / 2 ^ i / b : Nat) : Int) ((a / 2 ^ i % b : Nat) : Int) ((i : Int) - 1) = some ⟨.ret (.tup [.int .u64 ((a / b : Nat) : Int), .int .u64 ((a % b : Nat) : Int)]), [], none⟩ := by
    intro i
    induction i with
    | zero => intro _; rw [ref01_parted.L1_1_0_1_0_eq, Nat.pow_zero, Nat.div_one]; rfl
    | succ i ih =>
      intro hi
      have e1 : (((i + 1 : Nat) : Int) - 1) = (i : Int) := by omega
      have e2 : ((i : Int) ≥ 0) := by omega
      have e3 : IntKind.wrap IntKind.u64 (i : Int) = (i : Int) := by rw [IntKind.wrap_u64]; omega
      have e4 : ¬ ((i : Int) < 0) := by omega
      have hbl := bit_lt a i
      have e5 : Int.tmod (Int.fdiv (a : Int) ((2 : Int) ^ (Min.min (Int.toNat (i : Int)) 64))) 2 = ((bit a i : Nat) : Int) := by
        rw [Int.toNat_natCast, show Min.min i 64 = i by omega, Int.fdiv_eq_ediv_of_nonneg _ (Int.le_of_lt (Int.pow_pos (by omega)))]
        unfold bit
        rw [show ((2 : Int) ^ i) = ((2 ^ i : Nat) : Int) by rw [Int.natCast_pow]; rfl, ← Int.natCast_ediv, Int.tmod_eq_emod_of_nonneg (Int.natCast_nonneg _)]; rfl
      have hh := half a i
      have hr := Nat.mod_lt (a / 2 ^ (i + 1)) hb
      have hq : a / 2 ^ i / b ≤ a / 2 ^ i := Nat.div_le_self ..
      have hqa : a / 2 ^ i ≤ a := Nat.div_le_self ..
      obtain ⟨p1, p2⟩ := part_step (a / 2 ^ (i + 1)) b hb (bit a i) hbl
      rw [← hh] at p1 p2
      have e6 : ¬ (((a / 2 ^ (i + 1) % b : Nat) : Int) ≥ 9223372036854775808) := by omega
      have e7 : IntKind.wrap IntKind.u64 ((IntKind.wrap IntKind.u64 (((a / 2 ^ (i + 1) % b : Nat) : Int) * 2)) + ((bit a i : Nat) : Int)) = ((2 * (a / 2 ^ (i + 1) % b) + bit a i : Nat) : Int) := by
        rw [IntKind.wrap_u64, IntKind.wrap_u64]; omega
      have e9 : IntKind.wrap IntKind.i64 ((i : Int) - 1) = (i : Int) - 1 := wrap_in (by omega) (by omega)
      rw [ref01_parted.L1_1_0_1_0_eq, e1, decide_eq_true e2, cond_true, e3, if_neg e4, decide_eq_false e6, cond_false, e5, e7, e9]
      have ih' := ih (by omega)
      by_cases hge : 2 * (a / 2 ^ (i + 1) % b) + bit a i ≥ b
      · rw [if_pos hge] at p1 p2
        have e8 : (((2 * (a / 2 ^ (i + 1) % b) + bit a i : Nat) : Int) ≥ (b : Int)) := by omega
        have e10 : IntKind.wrap IntKind.u64 ((IntKind.wrap IntKind.u64 (((a / 2 ^ (i + 1) / b : Nat) : Int) * 2)) + 1) = ((a / 2 ^ i / b : Nat) : Int) := by
          rw [IntKind.wrap_u64, IntKind.wrap_u64]; omega
        have e11 : IntKind.wrap IntKind.u64 (((2 * (a / 2 ^ (i + 1) % b) + bit a i : Nat) : Int) - (b : Int)) = ((a / 2 ^ i % b : Nat) : Int) := by
          rw [IntKind.wrap_u64, p2]; omega
        rw [decide_eq_true e8, cond_true, e10, e11]
        exact ih'
      · rw [if_neg hge] at p1 p2
        have e8 : ¬ (((2 * (a / 2 ^ (i + 1) % b) + bit a i : Nat) : Int) ≥ (b : Int)) := by omega
        have e10 : IntKind.wrap IntKind.u64 (((a / 2 ^ (i + 1) / b : Nat) : Int) * 2) = ((a / 2 ^ i / b : Nat) : Int) := by
          rw [IntKind.wrap_u64]; omega
        rw [decide_eq_false e8, cond_false, e10, ← p2]
        exact ih'
  have h0 := key 64 (by omega)
  rw [Nat.div_eq_of_lt (show a < 2 ^ 64 by rw [two64]; exact ha), Nat.zero_div, Nat.zero_mod] at h0
  exact h0
theorem tdiv_abs (a b : Int) : a.tdiv b = if (a < 0) = (b < 0) then ((a.natAbs / b.natAbs : Nat) : Int) else -((a.natAbs / b.natAbs : Nat) : Int) := by
  by_cases h1 : a < 0 <;> by_cases h2 : b < 0
  · rw [if_pos (by simp [h1, h2])]
    obtain ⟨x, rfl⟩ : ∃ x : Nat, a = -(x : Int) := ⟨a.natAbs, by omega⟩
    obtain ⟨y, rfl⟩ : ∃ y : Nat, b = -(y : Int) := ⟨b.natAbs, by omega⟩
    rw [Int.neg_tdiv_neg]; simp [Int.natAbs_neg]
  · rw [if_neg (by simp [h1, h2])]
    obtain ⟨x, rfl⟩ : ∃ x : Nat, a = -(x : Int) := ⟨a.natAbs, by omega⟩
    obtain ⟨y, rfl⟩ : ∃ y : Nat, b = (y : Int) := ⟨b.natAbs, by omega⟩
    rw [Int.neg_tdiv]; simp [Int.natAbs_neg]
  · rw [if_neg (by simp [h1, h2])]
    obtain ⟨x, rfl⟩ : ∃ x : Nat, a = (x : Int) := ⟨a.natAbs, by omega⟩
    obtain ⟨y, rfl⟩ : ∃ y : Nat, b = -(y : Int) := ⟨b.natAbs, by omega⟩
    rw [Int.tdiv_neg]; simp [Int.natAbs_neg]
  · rw [if_pos (by simp [h1, h2])]
    obtain ⟨x, rfl⟩ : ∃ x : Nat, a = (x : Int) := ⟨a.natAbs, by omega⟩
    obtain ⟨y, rfl⟩ : ∃ y : Nat, b = (y : Int) := ⟨b.natAbs, by omega⟩
    simp
/-- Is it a number of 64 bits? -/
def i64 (n : Int) : Prop := -9223372036854775808 ≤ n ∧ n ≤ 9223372036854775807
theorem i64_wf {n : Int} (h : (Lit.int .i64 n).wf = true) : i64 n := by
  have h' : (decide (-9223372036854775808 ≤ n) && decide (n ≤ 9223372036854775807)) = true := h
  rw [Bool.and_eq_true, decide_eq_true_eq, decide_eq_true_eq] at h'
  exact h'
theorem wrap_i64_in (n : Int) : i64 (IntKind.i64.wrap n) := by unfold i64; rw [IntKind.wrap_i64]; omega
theorem ref01_Div_is (a b : Int) (ha : i64 a) (hb : i64 b) : den Sp ref01_Div.id [.int .i64 a, .int .i64 b] [] none =
    if b = 0 then some ⟨.ret (.tup [.int .i64 0, .int .i64 11]), [], none⟩ else some ⟨.ret (.tup [.int .i64 (IntKind.i64.wrap (a.tdiv b)), .int .i64 0]), [], none⟩ := by
  obtain ⟨a0, a1⟩ := ha
  obtain ⟨b0, b1⟩ := hb
  rw [ref01_Div.eq, ref01_size_is a a0 a1, ref01_size_is b b0 b1]
  by_cases h0 : b = 0
  · subst h0; rfl
  · have hbz : (b == (0 : Int)) = false := by simp [h0]
    rw [hbz, cond_false, if_neg h0]
    simp only [Option.bind_some, onRet_ret, asInt_int]
    rw [ref01_parted_is a.natAbs b.natAbs (by omega) (by omega) (by omega), tdiv_abs]
    have hq : a.natAbs / b.natAbs ≤ a.natAbs := Nat.div_le_self ..
    generalize a.natAbs / b.natAbs = q at *
    have tup : ∀ (x y : V) (k : (Nat → V) → Option Res), V.asTup (.tup [x, y]) 2 k = k (fun j => [x, y].getD j .undef) := fun x y k => asTup_tup _ _ rfl k
    have g0 : ∀ x y : V, [x, y].getD 0 V.undef = x := fun _ _ => rfl
    have g1 : ∀ x y : V, [x, y].getD (0 + 1) V.undef = y := fun _ _ => rfl
    simp only [Option.bind_some, onRet_ret, tup, g0, g1, asInt_int]
    by_cases h1 : a < 0 <;> by_cases h2 : b < 0
    · simp [h1, h2]
    · simp [h1, h2, ref01_Neg_is]
      rw [IntKind.wrap_i64, IntKind.wrap_i64, IntKind.wrap_i64]; omega
    · simp [h1, h2, ref01_Neg_is]
      rw [IntKind.wrap_i64, IntKind.wrap_i64, IntKind.wrap_i64]; omega
    · simp [h1, h2]
theorem ref01_Mod_is (a b : Int) (ha : i64 a) (hb : i64 b) : den Sp ref01_Mod.id [.int .i64 a, .int .i64 b] [] none =
    if b = 0 then some ⟨.ret (.tup [.int .i64 0, .int .i64 11]), [], none⟩ else some ⟨.ret (.tup [.int .i64 (a.tmod b), .int .i64 0]), [], none⟩ := by
  have tup : ∀ (x y : V) (k : (Nat → V) → Option Res), V.asTup (.tup [x, y]) 2 k = k (fun j => [x, y].getD j .undef) := fun x y k => asTup_tup _ _ rfl k
  have g0 : ∀ x y : V, [x, y].getD 0 V.undef = x := fun _ _ => rfl
  have g1 : ∀ x y : V, [x, y].getD (0 + 1) V.undef = y := fun _ _ => rfl
  rw [ref01_Mod.eq, ref01_Div_is a b ha hb]
  by_cases h0 : b = 0
  · subst h0; simp [tup]
  · rw [if_neg h0, if_neg h0]
    simp only [Option.bind_some, onRet_ret, tup, g0, g1, asInt_int, ref01_Mul_is, ref01_Sub_is, show ((0 : Int) != 0) = false from rfl, cond_false]
    have h1 := Int.tmod_add_mul_tdiv a b
    have h2 : i64 (a.tmod b) := by
      unfold i64 at *
      have h3 : (a.tmod b).natAbs ≤ a.natAbs := by rw [Int.natAbs_tmod]; exact Nat.mod_le ..
      have h4 : (a.tmod b).natAbs < b.natAbs := by rw [Int.natAbs_tmod]; exact Nat.mod_lt _ (by omega)
      omega
    have h3 : IntKind.i64.wrap (a - IntKind.i64.wrap (IntKind.i64.wrap (a.tdiv b) * b)) = a.tmod b := by
      have h4 : IntKind.i64.wrap (IntKind.i64.wrap (a.tdiv b) * b) % 18446744073709551616 = (b * a.tdiv b) % 18446744073709551616 := by
        have h5 : IntKind.i64.wrap (a.tdiv b) % 18446744073709551616 = a.tdiv b % 18446744073709551616 := by rw [IntKind.wrap_i64]; omega
        have h6 : IntKind.i64.wrap (IntKind.i64.wrap (a.tdiv b) * b) % 18446744073709551616 = (IntKind.i64.wrap (a.tdiv b) * b) % 18446744073709551616 := by rw [IntKind.wrap_i64]; omega
        rw [h6, Int.mul_emod, h5, ← Int.mul_emod, Int.mul_comm]
      generalize b * a.tdiv b = z at *
      generalize IntKind.i64.wrap (IntKind.i64.wrap (a.tdiv b) * b) = y at *
      unfold i64 at h2
      rw [IntKind.wrap_i64]
      omega
    rw [h3]
theorem num_Add_is (a b : Int) : den Sp num_Add.id [.int .i64 a, .int .i64 b] [] none = some ⟨.ret (.int .i64 (IntKind.i64.wrap (a + b))), [], none⟩ := num_Add.eq ..
theorem num_Sub_is (a b : Int) : den Sp num_Sub.id [.int .i64 a, .int .i64 b] [] none = some ⟨.ret (.int .i64 (IntKind.i64.wrap (a - b))), [], none⟩ := num_Sub.eq ..
theorem num_Mul_is (a b : Int) : den Sp num_Mul.id [.int .i64 a, .int .i64 b] [] none = some ⟨.ret (.int .i64 (IntKind.i64.wrap (a * b))), [], none⟩ := num_Mul.eq ..
theorem num_Neg_is (a : Int) : den Sp num_Neg.id [.int .i64 a] [] none = some ⟨.ret (.int .i64 (IntKind.i64.wrap (-a))), [], none⟩ := by rw [num_Neg.eq, Int.zero_sub]
theorem num_Div_is (a b : Int) : den Sp num_Div.id [.int .i64 a, .int .i64 b] [] none =
    if b = 0 then some ⟨.ret (.tup [.int .i64 0, .int .i64 11]), [], none⟩ else some ⟨.ret (.tup [.int .i64 (IntKind.i64.wrap (a.tdiv b)), .int .i64 0]), [], none⟩ := by
  rw [num_Div.eq]
  by_cases h0 : b = 0
  · subst h0; rfl
  · have hz : (b == (0 : Int)) = false := by simp [h0]
    simp [h0, hz]
theorem num_Mod_is (a b : Int) : den Sp num_Mod.id [.int .i64 a, .int .i64 b] [] none =
    if b = 0 then some ⟨.ret (.tup [.int .i64 0, .int .i64 11]), [], none⟩ else some ⟨.ret (.tup [.int .i64 (a.tmod b), .int .i64 0]), [], none⟩ := by
  rw [num_Mod.eq]
  by_cases h0 : b = 0
  · subst h0; rfl
  · have hz : (b == (0 : Int)) = false := by simp [h0]
    simp [h0, hz]
end Go.Proofs.Ytipjanijidbelaa
