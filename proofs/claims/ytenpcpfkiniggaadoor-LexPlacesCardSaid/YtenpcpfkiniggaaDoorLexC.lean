/- Numbers' texts and tokens: what the reader answers (2). Own work. -/
import Derived.Test.YtenpcpfkiniggaaDoorLexB
namespace Go.Proofs.YtenpcpfkiniggaaDoor
open Go Go.Proofs.Ab Go.Proofs.Px
set_option linter.unusedVariables false
set_option linter.unusedSimpArgs false

def pairV (x : Int × Int) : Option Res := some ⟨.ret (.tup [.int .i64 x.1, .int .i64 x.2]), [], none⟩
theorem tdiv10 {n : Int} (h : 0 ≤ n) : Int.tdiv n 10 = n / 10 := Int.tdiv_eq_ediv_of_nonneg h
/-- One round of the number's loop. -/
theorem parse_round (X Y : Option Res) (u : Nat) (hu : u ≤ 9223372036854775808) (c : UInt8) (r : List UInt8) (hX : X = pairV (0, 10)) (hY : dg c = true → u * 10 + (c.toNat - 48) ≤ 9223372036854775808 → Y = pairV (parseGo (u * 10 + (c.toNat - 48)) r)) :
    (bif (decide ((c.toNat : Int) < (48 : Int))) then X else (bif (decide ((IntKind.wrap IntKind.u64 ((IntKind.wrap IntKind.u64 (c.toNat : Int)) - (48 : Int))) > (9 : Int))) then X else
      (bif (decide ((u : Int) > (IntKind.wrap IntKind.u64 (Int.tdiv (IntKind.wrap IntKind.u64 ((9223372036854775808 : Int) - (IntKind.wrap IntKind.u64 ((IntKind.wrap IntKind.u64 (c.toNat : Int)) - (48 : Int))))) (10 : Int))))) then X else Y))) = pairV (parseGo u (c :: r)) := by
  have hc : c.toNat < 256 := c.toNat_lt
  unfold parseGo
  by_cases h1 : (c.toNat : Int) < 48
  · have : ¬ (dg c = true ∧ u * 10 + (c.toNat - 48) ≤ 9223372036854775808) := by
      rintro ⟨h2, _⟩
      unfold dg digit at h2
      simp only [Bool.and_eq_true, decide_eq_true_eq] at h2
      omega
    rw [decide_eq_true h1, cond_true, if_neg this, hX]
  · have e1 : IntKind.wrap IntKind.u64 (c.toNat : Int) = (c.toNat : Int) := by rw [IntKind.wrap_u64]; omega
    have e2 : IntKind.wrap IntKind.u64 ((c.toNat : Int) - 48) = (c.toNat : Int) - 48 := by rw [IntKind.wrap_u64]; omega
    rw [e1, e2, decide_eq_false h1, cond_false]
    by_cases h2 : ((c.toNat : Int) - 48) > 9
    · have : ¬ (dg c = true ∧ u * 10 + (c.toNat - 48) ≤ 9223372036854775808) := by
        rintro ⟨h3, _⟩
        unfold dg digit at h3
        simp only [Bool.and_eq_true, decide_eq_true_eq] at h3
        omega
      rw [decide_eq_true h2, cond_true, if_neg this, hX]
    · have e3 : IntKind.wrap IntKind.u64 ((9223372036854775808 : Int) - ((c.toNat : Int) - 48)) = (9223372036854775808 : Int) - ((c.toNat : Int) - 48) := by rw [IntKind.wrap_u64]; omega
      have e4 : IntKind.wrap IntKind.u64 (((9223372036854775808 : Int) - ((c.toNat : Int) - 48)) / 10) = ((9223372036854775808 : Int) - ((c.toNat : Int) - 48)) / 10 := by rw [IntKind.wrap_u64]; omega
      rw [e3, tdiv10 (by omega), e4, decide_eq_false h2, cond_false]
      have hd : dg c = true := by
        unfold dg digit
        simp only [Bool.and_eq_true, decide_eq_true_eq]
        omega
      by_cases h3 : (u : Int) > ((9223372036854775808 : Int) - ((c.toNat : Int) - 48)) / 10
      · have : ¬ (dg c = true ∧ u * 10 + (c.toNat - 48) ≤ 9223372036854775808) := by
          rintro ⟨_, h4⟩
          omega
        rw [decide_eq_true h3, cond_true, if_neg this, hX]
      · have : (dg c = true ∧ u * 10 + (c.toNat - 48) ≤ 9223372036854775808) := ⟨hd, by omega⟩
        rw [decide_eq_false h3, cond_false, if_pos this, hY this.1 this.2]
theorem parse_next (u : Nat) (hu : u ≤ 9223372036854775808) (c : UInt8) (h : u * 10 + (c.toNat - 48) ≤ 9223372036854775808) (hd : dg c = true) :
    (IntKind.wrap IntKind.u64 ((IntKind.wrap IntKind.u64 ((u : Int) * (10 : Int))) + (IntKind.wrap IntKind.u64 ((IntKind.wrap IntKind.u64 (c.toNat : Int)) - (48 : Int))))) = ((u * 10 + (c.toNat - 48) : Nat) : Int) := by
  have hc : c.toNat < 256 := c.toNat_lt
  unfold dg digit at hd
  simp only [Bool.and_eq_true, decide_eq_true_eq] at hd
  have e1 : IntKind.wrap IntKind.u64 (c.toNat : Int) = (c.toNat : Int) := by rw [IntKind.wrap_u64]; omega
  have e2 : IntKind.wrap IntKind.u64 ((c.toNat : Int) - 48) = (c.toNat : Int) - 48 := by rw [IntKind.wrap_u64]; omega
  have e3 : IntKind.wrap IntKind.u64 ((u : Int) * 10) = (u : Int) * 10 := by rw [IntKind.wrap_u64]; omega
  have e4 : IntKind.wrap IntKind.u64 ((u : Int) * 10 + ((c.toNat : Int) - 48)) = (u : Int) * 10 + ((c.toNat : Int) - 48) := by rw [IntKind.wrap_u64]; omega
  rw [e1, e2, e3, e4]; omega
theorem parse_v2 (w : List UInt8) (hw : w.length < 4611686018427387904) : ∀ i, i ≤ w.length → ∀ u : Nat, u ≤ 9223372036854775808 → num_Parse.L1_0_1_1_1_1_1_0_1_0v2 (B w) (u : Int) (i : Int) = pairV (parseGo u (w.drop i)) := by
  refine down (fun u hu => ?_) fun i hi ih u hu => ?_
  · have hlt : ¬ ((w.length : Int) < (w.length : Int)) := by omega
    rw [num_Parse.L1_0_1_1_1_1_1_0_1_0v2_eq, B_size, decide_eq_false hlt, cond_false, List.drop_length]
    unfold parseGo
    by_cases h : u = 9223372036854775808
    · subst h; rfl
    · have h' : ¬ ((u : Int) = 9223372036854775808) := by omega
      rw [if_neg h, beq_eq_false_iff_ne.2 h', cond_false, wrap_in (by omega) (by omega)]
      rfl
  · have hlt : ((i : Int) < (w.length : Int)) := by omega
    have hcond : (0 : Int) ≤ (i : Int) ∧ (i : Int) < (w.length : Int) := ⟨by omega, hlt⟩
    obtain ⟨c, hc⟩ : ∃ c, w.getD i 0 = c := ⟨_, rfl⟩
    have hd := drop_cons hi
    rw [hc] at hd
    rw [num_Parse.L1_0_1_1_1_1_1_0_1_0v2_eq, B_size, decide_eq_true hlt, cond_true, if_pos hcond, if_pos hcond, Int.toNat_natCast, B_byte, hc, wrap_nat (by omega), hd]
    refine parse_round _ _ u hu c _ rfl fun hd2 hok => ?_
    rw [parse_next u hu c hok hd2]
    exact ih _ hok
theorem parse_v3 (w : List UInt8) (hw : w.length < 4611686018427387904) : ∀ i, i ≤ w.length → ∀ u : Nat, u ≤ 9223372036854775808 → num_Parse.L1_0_1_1_1_1_1_0_1_0v3 (B w) (u : Int) true (i : Int) = pairV (parseGo u (w.drop i)) := by
  refine down (fun u hu => ?_) fun i hi ih u hu => ?_
  · have hlt : ¬ ((w.length : Int) < (w.length : Int)) := by omega
    rw [num_Parse.L1_0_1_1_1_1_1_0_1_0v3_eq, B_size, decide_eq_false hlt, cond_true, cond_false, List.drop_length]
    unfold parseGo
    by_cases h : u = 9223372036854775808
    · subst h; rfl
    · have h' : ¬ ((u : Int) = 9223372036854775808) := by omega
      rw [if_neg h, beq_eq_false_iff_ne.2 h', wrap_in (by omega) (by omega)]
      rfl
  · have hlt : ((i : Int) < (w.length : Int)) := by omega
    have hcond : (0 : Int) ≤ (i : Int) ∧ (i : Int) < (w.length : Int) := ⟨by omega, hlt⟩
    obtain ⟨c, hc⟩ : ∃ c, w.getD i 0 = c := ⟨_, rfl⟩
    have hd := drop_cons hi
    rw [hc] at hd
    rw [num_Parse.L1_0_1_1_1_1_1_0_1_0v3_eq, B_size, decide_eq_true hlt, cond_true, cond_true, if_pos hcond, if_pos hcond, Int.toNat_natCast, B_byte, hc, wrap_nat (by omega), hd]
    refine parse_round _ _ u hu c _ rfl fun hd2 hok => ?_
    rw [parse_next u hu c hok hd2]
    exact ih _ hok
/-- A text that begins with a digit. -/
theorem num_Parse_dg (c : UInt8) (r : List UInt8) (hc : dg c = true) (hw : (c :: r).length < 4611686018427387904) : den Sp num_Parse.id [.str (B (c :: r))] [] none = pairV (parse (c :: r)) := by
  have hc8 : c.toNat < 256 := c.toNat_lt
  have hb := hc
  unfold dg digit at hb
  simp only [Bool.and_eq_true, decide_eq_true_eq] at hb
  have hne : decide (B (c :: r) = B []) = false := by rw [B_dec]; rfl
  have hcond : (0 : Int) ≤ 0 ∧ (0 : Int) < (((c :: r).length : Nat) : Int) := ⟨Int.le_refl _, by simp⟩
  have h45 : ((c.toNat : Int) == (45 : Int)) = false := beq_eq_false_iff_ne.2 (by omega)
  have hg : (c :: r).getD 0 0 = c := rfl
  rw [num_Parse.eq, B_nil, hne, B_size, Bool.not_false, cond_true, if_pos hcond, B_byte, hg, h45, cond_false, cond_true, if_pos hcond]
  have p2 := parse_v2 (c :: r) hw 0 (by omega) 0 (by omega)
  have p3 := parse_v3 (c :: r) hw 0 (by omega) 0 (by omega)
  rw [List.drop_zero] at p2 p3
  unfold parse
  rw [hg]
  by_cases h48 : c = 48
  · subst h48
    have h1 : (((48 : UInt8).toNat : Int) != (48 : Int)) = false := rfl
    rw [h1, cond_false]
    by_cases hr : (48 :: r).length = 1
    · have h2 : ((((48 :: r).length : Nat) : Int) == (1 : Int)) = true := by rw [hr]; rfl
      rw [h2, if_pos (.inr hr)]
      exact p3
    · have h2 : ((((48 :: r).length : Nat) : Int) == (1 : Int)) = false := beq_eq_false_iff_ne.2 (by omega)
      have h3 : ¬ ((48 : UInt8) ≠ 48 ∨ (48 :: r).length = 1) := fun h => h.elim (fun h => h rfl) hr
      rw [h2, if_neg h3]
      rw [num_Parse.L1_0_1_1_1_1_1_0_1_0v3_eq]
      rfl
  · have h1 : ((c.toNat : Int) != (48 : Int)) = true := by
      have := byte_eq c 48 (by omega)
      show (!((c.toNat : Int) == ((48 : Nat) : Int))) = true
      rw [this]
      have h5 : (c == UInt8.ofNat 48) = false := beq_eq_false_iff_ne.2 h48
      rw [h5]; rfl
    rw [h1, cond_true, if_pos (.inl h48)]
    exact p2
end Go.Proofs.YtenpcpfkiniggaaDoor
