/- FoldRight: a right program that is folded stays right, with the same marks and variables. Own work. -/
import Derived.Test.YtipjanijidbelaaKnFold
import Derived.Test.YtipjanijidbelaaFoldPrg
import Derived.Test.YtipjanijidbelaaPxSame4
import Derived.Test.YtipjanijidbelaaFoldF
namespace Go.Proofs.Ytipjanijidbelaa
open Go Go.Proofs.Ab Go.Proofs.Px
set_option linter.unusedVariables false
set_option linter.unusedSimpArgs false
set_option maxRecDepth 100000

mutual
theorem Stm.fold_size : ∀ x : Stm, (Stm.fold x).size ≤ 4 * x.size
  | .mk k n p m e b l => by
    rw [Stm.fold, Stm.size, Stm.size, ← foldPs_map]
    have := foldPs_size e
    have := Stm.folds_size b
    have := Stm.folds_size l
    omega
theorem Stm.folds_size : ∀ l : List Stm, Stm.sizes (Stm.folds l) ≤ 4 * Stm.sizes l
  | [] => by rw [Stm.folds, Stm.sizes]; omega
  | x :: l => by
    rw [Stm.folds, Stm.sizes, Stm.sizes]
    have := Stm.fold_size x
    have := Stm.folds_size l
    omega
end
theorem Prc.fold_sizes : ∀ l : List Prc, Prc.sizes (l.map Prc.fold) ≤ 4 * Prc.sizes l
  | [] => by simp [Prc.sizes]
  | q :: l => by
    rw [List.map_cons, Prc.sizes, Prc.sizes]
    have h1 := Prc.fold_sizes l
    have h2 := Stm.folds_size q.body
    have e : q.fold.size = 1 + q.name.length / 8 + q.params.length + Par.sizes q.params + Stm.sizes (Stm.folds q.body) := rfl
    rw [e, Prc.size]; omega
theorem foldRight_den (x0 : List V) (h0 : Fits Sp.P Sp.pz T_api_Prog x0) : den Sp law05_FoldRight.id [.agg x0] [] none = some ⟨.ret (.bool true), [], none⟩ := by
  obtain ⟨⟨ps⟩, rfl, hp⟩ := Prg_in h0
  have hok := hp.procs
  simp only at hok
  obtain ⟨n, s1, s2, s3⟩ := ref03_Size_is ps hok.1 hok.2 1500 (by omega) (by omega)
  rw [Prg.v_mk, law05_FoldRight.eq, s1, law05_known_is]
  by_cases hn : 1500 < n
  · simp [hn]
  · have hs := s3 (by omega)
    have hlen := Prc.sizes_len ps
    have hc := ref04_Check_is ps hok.2 (by omega)
    unfold checkR at hc
    by_cases he : (checkP ps).2.2 = 0
    · obtain ⟨g1, g2, g3⟩ := checkP_ok he
      rw [g3] at hc
      simp only [if_pos] at hc
      unfold infoV at hc
      have hf := fold_Prog_is ps hok.2 (by omega)
      have hok2 : ∀ q ∈ ps.map Prc.fold, PrcOk q := fun q hq => by
        obtain ⟨r, hr, rfl⟩ := List.mem_map.1 hq
        exact fold_prc_ok (hok.2 r hr)
      have hc2 := ref04_Check_is (ps.map Prc.fold) hok2 (by have := Prc.fold_sizes ps; omega)
      unfold checkR at hc2
      rw [check_fold hok.2 he] at hc2
      simp only [if_pos] at hc2
      have e1 : (ps.map Prc.fold).map varsP = ps.map varsP := by rw [List.map_map]; exact List.map_congr_left fun q _ => varsP_fold q
      have e2 : ((ps.map Prc.fold).map fun q => (Stm.counts q.body : Int)) = ps.map fun q => (Stm.counts q.body : Int) := by rw [List.map_map]; exact List.map_congr_left fun q _ => congrArg _ (Stm.folds_counts q.body)
      rw [e1, e2] at hc2
      unfold infoV at hc2
      have hrf := ref04_Same_refl (ps.map varsP) (ps.map fun q => (Stm.counts q.body : Int)) (by simp) (by simp; omega) (by
        intro r hr
        obtain ⟨p, hp, rfl⟩ := List.mem_map.1 hr
        have := (procE_ok (procsE_none g2 p hp)).2.1
        omega)
      unfold infoV at hrf
      simp only [List.map_map] at hf hc2
      simp [hn, hc, hf, hc2, hrf]
    · simp [hn, hc, he, infoV, vrows]
end Go.Proofs.Ytipjanijidbelaa
