/- A number among some. Own work. -/
import Derived.Test.YtkelkkjkbpdldaaPxS
import Derived.Test.YtkelkkjkbpdldaaRAmong
namespace Go.Proofs.Ytkelkkjkbpdldaa
open Go Go.Proofs.Ab Go.Proofs.Px
set_option linter.unusedVariables false
set_option linter.unusedSimpArgs false

theorem ref01_Among_is (a n : Int) (h0 : 1 ≤ n) (h1 : n ≤ 1000000000) : den Sp ref01_Among.id [.int .i64 a, .int .i64 n] [] none = some ⟨.ret (.int .i64 (a % n)), [], none⟩ := by
  rw [ref01_Among.eq]
  have hn : ¬ n < 1 := by omega
  have hn0 : ¬ n = 0 := by omega
  have hm0 := Int.emod_nonneg a hn0
  have hm1 := Int.emod_lt_of_pos a (show 0 < n by omega)
  have ht : Int.tmod a n = if 0 ≤ a ∨ n ∣ a then a % n else a % n - n := by
    have := Int.tmod_eq_emod (a := a) (b := n)
    rw [this]
    have e : (n.natAbs : Int) = n := by omega
    split
    · simp
    · rw [e]
  by_cases c : 0 ≤ a ∨ n ∣ a
  · rw [if_pos c] at ht
    simp [hn, hn0, ht, show ¬ a % n < 0 by omega]
  · rw [if_neg c] at ht
    have h2 : a % n - n < 0 := by omega
    simp (disch := omega) [hn, hn0, ht, h2, wrap_in]
end Go.Proofs.Ytkelkkjkbpdldaa
