/- 64 binary digits, as rows. Own work. -/
import Derived.Test.YtipjanijidbelaaPxB
import Derived.Laws.Bits64
namespace Go.Proofs.Px
open Go Go.Proofs.Ab
set_option linter.unusedVariables false
/-- The i-th binary digit. -/
def bit (x i : Nat) : Nat := x / 2 ^ i % 2
theorem bit_lt (x i : Nat) : bit x i < 2 := Nat.mod_lt _ (by omega)
def bitsTo (x k : Nat) : List (List V) := (List.range k).map fun i => [.int .i64 ((bit x i : Nat) : Int)]
def bitRow (x : Nat) : List (List V) := bitsTo x 64
theorem bitsTo_len (x k : Nat) : (bitsTo x k).length = k := by simp [bitsTo]
theorem bitsTo_succ (x k : Nat) : bitsTo x (k + 1) = bitsTo x k ++ [[.int .i64 ((bit x k : Nat) : Int)]] := by simp [bitsTo, List.range_succ]
theorem bits_at {x i : Nat} (h : i < 64) : List.getD (List.getD (bitRow x) i []) 0 V.undef = .int .i64 ((bit x i : Nat) : Int) := by
  unfold bitRow bitsTo
  rw [List.getD_eq_getElem?_getD (l := List.map _ _), List.getElem?_map, List.getElem?_range h]; rfl
theorem bit_decide (x i : Nat) : x.testBit i = decide (bit x i = 1) := Nat.testBit_eq_decide_div_mod_eq
theorem bit_ext {x y i : Nat} (h : x.testBit i = y.testBit i) : bit x i = bit y i := by
  rw [bit_decide, bit_decide] at h
  have h1 := bit_lt x i
  have h2 := bit_lt y i
  by_cases h3 : bit x i = 1 <;> by_cases h4 : bit y i = 1 <;> simp [h3, h4] at h <;> omega
theorem bits_mod (x : Nat) : bitRow (x % 2 ^ 64) = bitRow x := by
  unfold bitRow bitsTo
  refine List.map_congr_left fun i hi => ?_
  have hi' := List.mem_range.1 hi
  rw [bit_ext (x := x % 2 ^ 64) (y := x) (i := i) (by rw [Nat.testBit_mod_two_pow]; simp [hi'])]
theorem bit_other {x i : Nat} (h : x < 2 ^ 64) (hi : i < 64) : bit (2 ^ 64 - (x + 1)) i = 1 - bit x i := by
  have h1 := Nat.testBit_two_pow_sub_succ h i
  rw [bit_decide, bit_decide] at h1
  have h2 := bit_lt (2 ^ 64 - (x + 1)) i
  have h3 := bit_lt x i
  simp only [hi, decide_true, Bool.true_and] at h1
  by_cases h4 : bit x i = 1
  · rw [decide_eq_true h4, Bool.not_true, decide_eq_false_iff_not] at h1
    omega
  · rw [decide_eq_false h4, Bool.not_false, decide_eq_true_eq] at h1
    omega
theorem half (x i : Nat) : x / 2 ^ i = 2 * (x / 2 ^ (i + 1)) + bit x i := by
  unfold bit
  rw [Nat.pow_succ, ← Nat.div_div_eq_div_mul]
  omega
theorem low (x i : Nat) : x % 2 ^ (i + 1) = x % 2 ^ i + 2 ^ i * bit x i := by
  unfold bit
  rw [Nat.pow_succ, Nat.mod_mul]
/-- What is carried into the i-th place. -/
def carry (a b c i : Nat) : Nat := (a % 2 ^ i + b % 2 ^ i + c) / 2 ^ i
theorem carry_zero (a b c : Nat) : carry a b c 0 = c := by simp [carry, Nat.mod_one]
theorem carry_succ (a b c i : Nat) : carry a b c (i + 1) = (bit a i + bit b i + carry a b c i) / 2 := by
  have hp : 0 < 2 ^ i := Nat.two_pow_pos i
  unfold carry
  rw [low a i, low b i, Nat.pow_succ, ← Nat.div_div_eq_div_mul]
  have : a % 2 ^ i + 2 ^ i * bit a i + (b % 2 ^ i + 2 ^ i * bit b i) + c = (a % 2 ^ i + b % 2 ^ i + c) + 2 ^ i * (bit a i + bit b i) := by
    rw [Nat.mul_add]; omega
  rw [this, Nat.add_mul_div_left _ _ hp]
  congr 1; omega
theorem carry_bit (a b c i : Nat) : bit (a + b + c) i = (bit a i + bit b i + carry a b c i) % 2 := by
  have hp : 0 < 2 ^ i := Nat.two_pow_pos i
  have h1 : a + b + c = (a % 2 ^ i + b % 2 ^ i + c) + 2 ^ i * (a / 2 ^ i + b / 2 ^ i) := by
    have := Nat.mod_add_div a (2 ^ i)
    have := Nat.mod_add_div b (2 ^ i)
    rw [Nat.mul_add]; omega
  unfold bit carry
  rw [h1, Nat.add_mul_div_left _ _ hp]
  omega
theorem carry_lt {a b c i : Nat} (hc : c ≤ 1) : carry a b c i ≤ 1 := by
  have hp : 0 < 2 ^ i := Nat.two_pow_pos i
  unfold carry
  have h1 := Nat.mod_lt a hp
  have h2 := Nat.mod_lt b hp
  have : (a % 2 ^ i + b % 2 ^ i + c) / 2 ^ i < 2 := by
    rw [Nat.div_lt_iff_lt_mul hp]; omega
  omega
end Go.Proofs.Px
