/- Counting statements: the program's. Own work. -/
import Derived.Test.YtkelkkjkbpdldaaPxFlat
import Derived.Test.YtkelkkjkbpdldaaRCnt
namespace Go.Proofs.Ytkelkkjkbpdldaa
open Go Go.Proofs.Ab Go.Proofs.Px
set_option linter.unusedVariables false
set_option linter.unusedSimpArgs false
set_option maxRecDepth 100000

theorem check_count_is : ∀ l : List Stm, Stm.counts l ≤ 1000000 → den Sp check_count.id [.sl .no T_api_Stmt (l.map Stm.v)] [] none = some ⟨.ret (.int .i64 (Stm.counts l : Int)), [], none⟩ := by
  refine Stm.ind_list fun l ih hc => ?_
  have hlen := Stm.counts_len l
  have key : ∀ i : Nat, i ≤ l.length → ∀ n : Int, 0 ≤ n → n + (Stm.counts (l.drop i) : Int) ≤ 1000000 → check_count.L1_1_0_1_0 n (l.map Stm.v) (l.length : Int) (i : Int) = some ⟨.ret (.int .i64 (n + (Stm.counts (l.drop i) : Int))), [], none⟩ := by
    refine down (fun n hn h => ?_) fun i hi ihi n hn h => ?_
    · rw [check_count.L1_1_0_1_0_eq]; simp [Stm.counts]
    · rw [Stm.counts_drop hi, Stm.count_is] at h
      have hm := List.getElem_mem hi
      have h1 := (ih _ hm).1 (by omega)
      have h2 := (ih _ hm).2 (by omega)
      have h3 := ihi (n + (1 + (Stm.counts l[i].body : Int) + (Stm.counts l[i].els : Int))) (by omega) (by omega)
      rw [check_count.L1_1_0_1_0_eq]
      simp (disch := omega) [hi, h1, h2, wrap_in]
      rw [Stm.counts_drop hi, Stm.count_is]
      simp only [Int.natCast_add, Int.add_assoc] at h3 ⊢
      exact h3
  rw [check_count.eq]
  simpa using key 0 (Nat.zero_le _) 0 (by omega) (by simp; omega)
end Go.Proofs.Ytkelkkjkbpdldaa
