/- Decimal texts, and 64 binary digits. Own work. -/
import Derived.Test.YtipjanijidbelaaPxB
import Derived.Laws.Bits64
namespace Go.Proofs.Px
open Go Go.Proofs.Ab
set_option linter.unusedVariables false

theorem one_most {i : Nat} {x : List V} (h : i ≤ 1000000000000) : i + List.length [x] ≤ most := by
  show i + 1 ≤ 1099511627776
  omega
def dgt (u : Nat) : UInt8 := UInt8.ofNat (48 + u % 10)
theorem dgt_nat (u : Nat) : (dgt u).toNat = 48 + u % 10 := by
  unfold dgt
  rw [UInt8.toNat_ofNat']; omega
def decGo : Nat → Nat → List UInt8 → List UInt8
  | 0, _, acc => acc
  | f + 1, u, acc => if u / 10 = 0 then dgt u :: acc else decGo f (u / 10) (dgt u :: acc)
def dec (u : Nat) : List UInt8 := decGo 20 u []
/-- A whole number's text. -/
def decs (n : Int) : List UInt8 := if n < 0 then 45 :: dec n.natAbs else dec n.natAbs
theorem decGo_more (f : Nat) : ∀ (g u : Nat) (acc : List UInt8), u < 10 ^ f → f ≤ g → 0 < f → decGo g u acc = decGo f u acc := by
  induction f with
  | zero => intro _ _ _ _ _ h; omega
  | succ f ih =>
    intro g u acc h hg _
    obtain ⟨g, rfl⟩ : ∃ k, g = k + 1 := ⟨g - 1, by omega⟩
    unfold decGo
    by_cases h0 : u / 10 = 0
    · rw [if_pos h0, if_pos h0]
    · rw [if_neg h0, if_neg h0]
      have h1 : u / 10 < 10 ^ f := by
        rw [Nat.pow_succ] at h
        omega
      refine ih g _ _ h1 (by omega) ?_
      rcases Nat.eq_zero_or_pos f with rfl | h2
      · simp at h1; omega
      · exact h2
theorem dec_of (f u : Nat) (h : u < 10 ^ f) (hf : 0 < f) (hf2 : f ≤ 20) : dec u = decGo f u [] := decGo_more f 20 u [] h hf2 hf
theorem decGo_len : ∀ (f u : Nat) (acc : List UInt8), (decGo f u acc).length ≤ f + acc.length
  | 0, _, acc => by simp [decGo]
  | f + 1, u, acc => by
    unfold decGo
    split
    · simp; omega
    · have := decGo_len f (u / 10) (dgt u :: acc)
      simp at this; omega
theorem dec_len20 (u : Nat) : (dec u).length ≤ 20 := by
  have := decGo_len 20 u []
  exact this
theorem decs_len (n : Int) : (decs n).length ≤ 21 := by
  unfold decs
  have := dec_len20 n.natAbs
  split
  · simp; omega
  · omega
/-- What the digits are worth, and that each is one. -/
theorem decGo_digits : ∀ (f u : Nat) (acc : List UInt8), (∀ c ∈ acc, 48 ≤ c.toNat ∧ c.toNat ≤ 57) → ∀ c ∈ decGo f u acc, 48 ≤ c.toNat ∧ c.toNat ≤ 57
  | 0, u, acc, h => h
  | f + 1, u, acc, h => by
    have h1 : ∀ c ∈ dgt u :: acc, 48 ≤ c.toNat ∧ c.toNat ≤ 57 := by
      intro c hc
      rcases List.mem_cons.1 hc with rfl | hc
      · rw [dgt_nat]; omega
      · exact h c hc
    unfold decGo
    split
    · exact h1
    · exact decGo_digits f (u / 10) _ h1
theorem dec_digits (u : Nat) : ∀ c ∈ dec u, 48 ≤ c.toNat ∧ c.toNat ≤ 57 := decGo_digits 20 u [] (fun c h => by cases h)
/-- What a row of digits is worth, after a number. -/
def worth (u : Nat) (l : List UInt8) : Nat := l.foldl (fun a c => a * 10 + (c.toNat - 48)) u
theorem worth_cons (u : Nat) (c : UInt8) (l : List UInt8) : worth u (c :: l) = worth (u * 10 + (c.toNat - 48)) l := by
  unfold worth
  exact List.foldl_cons ..
theorem decGo_worth (f : Nat) : ∀ (u : Nat) (acc : List UInt8), u < 10 ^ f → 0 < f → worth 0 (decGo f u acc) = worth u acc := by
  induction f with
  | zero => intro _ _ _ h; omega
  | succ f ih =>
    intro u acc h _
    have hd : (dgt u).toNat - 48 = u % 10 := by rw [dgt_nat]; omega
    unfold decGo
    by_cases h0 : u / 10 = 0
    · rw [if_pos h0, worth_cons, hd, show 0 * 10 + u % 10 = u by omega]
    · rw [if_neg h0]
      have h1 : u / 10 < 10 ^ f := by
        rw [Nat.pow_succ] at h
        omega
      rw [ih (u / 10) _ h1 (by
        rcases Nat.eq_zero_or_pos f with rfl | h2
        · simp at h1; omega
        · exact h2), worth_cons, hd, show u / 10 * 10 + u % 10 = u by omega]
theorem worth_nil (u : Nat) : worth u [] = u := by
  unfold worth
  exact List.foldl_nil
theorem dec_worth (u : Nat) (h : u < 10 ^ 20) : worth 0 (dec u) = u := by
  unfold dec
  rw [decGo_worth 20 u [] h (Nat.zero_lt_succ _), worth_nil]
theorem decGo_ne : ∀ (f u : Nat) (acc : List UInt8), 0 < f → decGo f u acc ≠ []
  | 0, _, _, h => by omega
  | f + 1, u, acc, _ => by
    unfold decGo
    split
    · simp
    · rcases Nat.eq_zero_or_pos f with rfl | h
      · simp [decGo]
      · exact decGo_ne f _ _ h
/-- No leading zero, but of zero itself. -/
theorem decGo_head (f : Nat) : ∀ (u : Nat) (acc : List UInt8), u < 10 ^ f → 0 < f → 0 < u → (decGo f u acc).getD 0 0 ≠ 48 := by
  induction f with
  | zero => intro _ _ _ h; omega
  | succ f ih =>
    intro u acc h _ hu
    unfold decGo
    by_cases h0 : u / 10 = 0
    · rw [if_pos h0]
      intro h2
      have h3 : (dgt u).toNat = (48 : UInt8).toNat := congrArg UInt8.toNat h2
      rw [dgt_nat] at h3
      have : (48 : UInt8).toNat = 48 := rfl
      omega
    · rw [if_neg h0]
      have h1 : u / 10 < 10 ^ f := by
        rw [Nat.pow_succ] at h
        omega
      refine ih (u / 10) _ h1 ?_ (by omega)
      rcases Nat.eq_zero_or_pos f with rfl | h2
      · simp at h1; omega
      · exact h2
theorem dec_zero : dec 0 = [48] := rfl
end Go.Proofs.Px
