/- What is known of a program is the same as itself. Own work. -/
import Derived.Test.YtipjanijidbelaaPxPlain
import Derived.Test.YtipjanijidbelaaRSame4
namespace Go.Proofs.Ytipjanijidbelaa
open Go Go.Proofs.Ab Go.Proofs.Px
set_option linter.unusedVariables false
set_option linter.unusedSimpArgs false
set_option maxRecDepth 100000
theorem ref04_Same_refl (vs : List (List Vr)) (ms : List Int) (h : vs.length = ms.length) (hl : ms.length ≤ 1000000) (hv : ∀ r ∈ vs, r.length ≤ 140737488351232) : den Sp ref04_Same.id [infoV vs ms, infoV vs ms] [] none = some ⟨.ret (.bool true), [], none⟩ := by
  have inner : ∀ i (hi : i < ms.length), (∀ k : Int, ref04_Same.L1_1_0_1_0v1 ((i + 1 : Nat) : Int) k (vrows vs) (iv ms) (vrows vs) (iv ms) = some ⟨.ret (.bool true), [], none⟩) → ∀ j : Nat, j ≤ (vs[i]'(by omega)).length → ref04_Same.L1_1_0_1_0_0_1_0_0_1_1_0 (i : Int) (j : Int) (vrows vs) (iv ms) (vrows vs) (iv ms) = some ⟨.ret (.bool true), [], none⟩ := by
    intro i hi hn
    have hi' : i < vs.length := by omega
    have hrl := hv _ (List.getElem_mem hi')
    have e1 := vrows_at vs i hi'
    rw [List.getD_eq_getElem?_getD, List.getD_eq_getElem?_getD] at e1
    refine down ?_ fun j hj ih => ?_
    · have h2 := hn ((vs[i]'hi').length : Int)
      simp only [Int.natCast_add, Int.natCast_one] at h2
      rw [ref04_Same.L1_1_0_1_0_0_1_0_0_1_1_0_eq]
      simp (disch := omega) [hi', e1, wrap_in, h2]
    · simp only [Int.natCast_add, Int.natCast_one] at ih
      rw [ref04_Same.L1_1_0_1_0_0_1_0_0_1_1_0_eq]
      simp (disch := omega) [hi', hj, e1, wrap_in, ih]
  have outer : ∀ i : Nat, i ≤ ms.length → ∀ k : Int, ref04_Same.L1_1_0_1_0v1 (i : Int) k (vrows vs) (iv ms) (vrows vs) (iv ms) = some ⟨.ret (.bool true), [], none⟩ := by
    refine down (fun k => ?_) fun i hi ih k => ?_
    · rw [ref04_Same.L1_1_0_1_0v1_eq]; simp
    · have hi' : i < vs.length := by omega
      have e1 := vrows_at vs i hi'
      have e2 := iv_at ms i hi
      rw [List.getD_eq_getElem?_getD, List.getD_eq_getElem?_getD] at e1 e2
      have h2 := inner i hi ih 0 (Nat.zero_le _)
      rw [ref04_Same.L1_1_0_1_0v1_eq]
      simp (disch := omega) [hi, hi', h, e1, e2]
      simpa using h2
  unfold infoV
  rw [ref04_Same.eq, ref04_Same.L1_1_0_1_0_eq]
  rcases Nat.eq_zero_or_pos ms.length with hz | hi
  · obtain rfl := List.eq_nil_of_length_eq_zero hz
    simp
  · have hi' : 0 < vs.length := by omega
    have e1 := vrows_at vs 0 hi'
    have e2 := iv_at ms 0 hi
    rw [List.getD_eq_getElem?_getD, List.getD_eq_getElem?_getD] at e1 e2
    have h2 := inner 0 hi (outer 1 hi) 0 (Nat.zero_le _)
    simp only [Int.natCast_zero] at h2
    simp [hi, hi', h, e1, e2, h2]
    simp [iv, vrows]

end Go.Proofs.Ytipjanijidbelaa
