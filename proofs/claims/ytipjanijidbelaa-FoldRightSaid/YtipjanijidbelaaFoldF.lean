/- Folded it is hardly greater. Own work. -/
import Derived.Test.YtipjanijidbelaaFoldC
namespace Go.Proofs.Ytipjanijidbelaa
open Go Go.Proofs.Ab Go.Proofs.Px
set_option linter.unusedVariables false
set_option linter.unusedSimpArgs false
set_option maxRecDepth 100000

theorem size_intE (n : Int) : (intE n).size = 1 := by unfold intE; simp [Ex.size, Ex.sizes]
theorem size_boolE (n : Int) : (boolE n).size = 1 := by unfold boolE; simp [Ex.size, Ex.sizes]
theorem size_litP (n : Int) : (litP n).size ≤ 4 := by
  unfold litP
  split
  · rw [size_intE]; omega
  · split <;> simp [Ex.size, Ex.sizes, size_intE]
theorem size_l (x : Ex) : x.size = 1 + x.name.length / 8 + Ex.sizes x.l := by cases x; rw [Ex.size]; rfl
theorem size_step (x : Ex) : (stepP x).size ≤ x.size ∨ (stepP x).size ≤ 4 := by
  have hx := Ex.size_pos x
  unfold stepP
  split
  · exact .inl (Nat.le_refl _)
  · cases hc : constantP x with
    | some y =>
      have : y.size ≤ 4 := by
        unfold constantP at hc
        split at hc
        · split at hc
          · cases hc
          · split at hc
            · cases hc; rw [size_boolE]; omega
            · cases hc; exact size_litP _
        · cases hc
      exact .inr this
    | none =>
      dsimp only
      have hl := size_l x
      split
      · rename_i y hxl
        have hy : y.size ≤ x.size := by
          have := Ex.size_mem (l := x.l) (x := y) (by rw [hxl]; exact List.mem_singleton_self y)
          omega
        split
        · left
          rcases unP_mem x.name y x with h | ⟨z, l, h1, _, h2⟩
          · rw [h]; omega
          · rw [h2]
            have h3 := Ex.size_mem (l := y.l) (x := z) (by rw [h1]; exact List.mem_cons_self ..)
            have h4 := size_l y
            omega
        · exact .inl (Nat.le_refl _)
      · rename_i a b hxl
        have ha : a.size ≤ x.size := by
          have := Ex.size_mem (l := x.l) (x := a) (by rw [hxl]; exact List.mem_cons_self ..)
          omega
        have hb : b.size ≤ x.size := by
          have := Ex.size_mem (l := x.l) (x := b) (by rw [hxl]; exact List.mem_cons_of_mem _ (List.mem_singleton_self b))
          omega
        split
        · left
          rcases lessP_mem x.name a b x with h | h | h <;> rw [h] <;> omega
        · exact .inl (Nat.le_refl _)
      · exact .inl (Nat.le_refl _)
mutual
theorem foldP_size : ∀ x : Ex, (foldP x).size ≤ 4 * x.size
  | .mk k s m l => by
    rw [foldP]
    have h1 := foldPs_size l
    split
    · have h2 : (Ex.mk k s m (foldPs l)).size ≤ 4 * (Ex.mk k s m l).size := by rw [Ex.size, Ex.size]; omega
      have h3 := Ex.size_pos (Ex.mk k s m l)
      rcases size_step (.mk k s m (foldPs l)) with h | h <;> omega
    · omega
theorem foldPs_size : ∀ l : List Ex, Ex.sizes (foldPs l) ≤ 4 * Ex.sizes l
  | [] => Nat.le_refl _
  | x :: l => by
    rw [foldPs, Ex.sizes, Ex.sizes]
    have := foldP_size x
    have := foldPs_size l
    omega
end
end Go.Proofs.Ytipjanijidbelaa
