/- Counting statements, and a row of them: the reference's. Own work. -/
import Derived.Test.YtipjanijidbelaaPxFlat
import Derived.Test.YtipjanijidbelaaRRow
namespace Go.Proofs.Ytipjanijidbelaa
open Go Go.Proofs.Ab Go.Proofs.Px
set_option linter.unusedVariables false
set_option linter.unusedSimpArgs false
set_option maxRecDepth 100000

theorem ref04_total_is : ∀ l : List Stm, Stm.counts l ≤ 1000000 → den Sp ref04_total.id [.sl .no T_api_Stmt (l.map Stm.v)] [] none = some ⟨.ret (.int .i64 (Stm.counts l : Int)), [], none⟩ := by
  refine Stm.ind_list fun l ih hc => ?_
  have hlen := Stm.counts_len l
  have key : ∀ i : Nat, i ≤ l.length → ∀ n : Int, 0 ≤ n → n + (Stm.counts (l.drop i) : Int) ≤ 1000000 → ref04_total.L1_1_0_1_0 (l.map Stm.v) n (i : Int) = some ⟨.ret (.int .i64 (n + (Stm.counts (l.drop i) : Int))), [], none⟩ := by
    refine down (fun n hn h => ?_) fun i hi ihi n hn h => ?_
    · rw [ref04_total.L1_1_0_1_0_eq]; simp [Stm.counts]
    · rw [Stm.counts_drop hi, Stm.count_is] at h
      have hm := List.getElem_mem hi
      have h1 := (ih _ hm).1 (by omega)
      have h2 := (ih _ hm).2 (by omega)
      have h3 := ihi (n + (1 + (Stm.counts l[i].body : Int) + (Stm.counts l[i].els : Int))) (by omega) (by omega)
      rw [ref04_total.L1_1_0_1_0_eq]
      simp (disch := omega) [hi, h1, h2, wrap_in]
      rw [Stm.counts_drop hi, Stm.count_is]
      simp only [Int.natCast_add, Int.add_assoc] at h3 ⊢
      exact h3
  rw [ref04_total.eq]
  simpa using key 0 (Nat.zero_le _) 0 (by omega) (by simp; omega)
theorem ref04_Row_is : ∀ l : List Stm, Stm.counts l ≤ 1000000 → ∀ next : Int, 0 ≤ next → next + (Stm.counts l : Int) ≤ 3000000 → den Sp ref04_Row.id [.sl .no T_api_Stmt (l.map Stm.v), .int .i64 next] [] none =
    some ⟨.ret (.sl .no T_parallaxref04_Item ((Stm.items l next (next + (Stm.counts l : Int) - 1)).map itemV)), [], none⟩ := by
  refine Stm.ind_list fun l ih hc next g0 g1 => ?_
  have hlen := Stm.counts_len l
  have key : ∀ i : Nat, i ≤ l.length → ∀ (nx : Int) (acc : List (Stm × Int)), 0 ≤ nx → nx + (Stm.counts (l.drop i) : Int) ≤ 3000000 → acc.length + Stm.counts (l.drop i) ≤ 1000000 → ∀ last : Int,
      ref04_Row.L1_1_1_0_1_0 (l.map Stm.v) nx (acc.map itemV) last (i : Int) = some ⟨.ret (.sl .no T_parallaxref04_Item ((acc ++ Stm.items (l.drop i) nx last).map itemV)), [], none⟩ := by
    refine down (fun nx acc _ _ _ last => ?_) fun i hi ihi nx acc hn h hacc last => ?_
    · rw [ref04_Row.L1_1_1_0_1_0_eq]; simp [Stm.items]
    · rw [Stm.counts_drop hi, Stm.count_is] at h hacc
      have hm := List.getElem_mem hi
      have h1 := (ih _ hm).1 (by omega) (nx + 1) (by omega) (by omega)
      have h2 := (ih _ hm).2 (by omega) (nx + 1 + (Stm.counts l[i].body : Int)) (by omega) (by omega)
      have h3 := ihi (nx + (l[i].count : Int)) (acc ++ Stm.item l[i] nx last) (by omega) (by rw [Stm.count_is]; omega) (by rw [List.length_append, Stm.item_is, List.length_cons, List.length_append, Stm.items_len, Stm.items_len]; omega) last
      rw [ref04_Row.L1_1_1_0_1_0_eq]
      simp (disch := omega) [hi, h1, h2, wrap_in, most_if, Stm.items_len]
      rw [Stm.items_drop hi]
      rw [Stm.count_is, Stm.item_is] at h3 ⊢
      simp [itemV, Int.add_assoc] at h3 ⊢
      exact h3
  have h0 := key 0 (Nat.zero_le _) next [] g0 (by simpa using g1) (by simpa using hc) (next + (Stm.counts l : Int) - 1)
  rw [ref04_Row.eq, ref04_total_is l hc]
  simp (disch := omega) [wrap_in]
  simpa using h0
end Go.Proofs.Ytipjanijidbelaa
