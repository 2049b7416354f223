/- Is a program greater than the checking layer's statements look at? Own work. -/
import Derived.Test.YtkelkkjkbpdldaaPxSizeP
import Derived.Test.YtkelkkjkbpdldaaRGreat
namespace Go.Proofs.Ytkelkkjkbpdldaa
open Go Go.Proofs.Ab Go.Proofs.Px
set_option linter.unusedVariables false
set_option linter.unusedSimpArgs false
set_option maxRecDepth 100000

theorem law04_great_is (ps : List Prc) (hl : ps.length ≤ 140737488351232) (hok : ∀ p ∈ ps, PrcOk p) : ∃ b, den Sp law04_great.id [.agg [.sl .no T_api_Proc (ps.map Prc.v)]] [] none = some ⟨.ret (.bool b), [], none⟩ ∧ (b = false → Prc.sizes ps ≤ 1500) := by
  obtain ⟨n, h1, h2, h3⟩ := ref03_Size_is ps hl hok 1500 (by omega) (by omega)
  refine ⟨decide (1500 < n), ?_, fun h => ?_⟩
  · rw [law04_great.eq, h1]; simp
  · have := h3 (by simpa using h); have h4 : ¬ 1500 < n := by simpa using h
    omega
end Go.Proofs.Ytkelkkjkbpdldaa
