/- FoldTwice: folded twice is folded once. Own work. -/
import Derived.Test.YtipjanijidbelaaKnFold
import Derived.Test.YtipjanijidbelaaFoldE
import Derived.Test.YtipjanijidbelaaFoldF
import Derived.Test.YtipjanijidbelaaRFoldTwice
namespace Go.Proofs.Ytipjanijidbelaa
open Go Go.Proofs.Ab Go.Proofs.Px
set_option linter.unusedVariables false
set_option linter.unusedSimpArgs false
set_option maxRecDepth 100000

theorem foldTwice_den (x0 : List V) (h0 : Fits Sp.P Sp.pz T_api_Expr x0) : den Sp law05_FoldTwice.id [.agg x0] [] none = some ⟨.ret (.bool true), [], none⟩ := by
  obtain ⟨x, rfl, hx⟩ := expr_in h0
  obtain ⟨b, hb, hbs⟩ := law05_great_is x hx
  rw [Ex.v_is, law05_FoldTwice.eq]
  simp only [Ex.v_list]
  rw [hb, law05_known_is]
  simp only [Option.bind_some, onRet_ret, asBool_bool]
  cases b with
  | true => rfl
  | false =>
    have hs := hbs rfl
    have h1 := fold_Expr_is x hx (by omega)
    have h2 := fold_Expr_is (foldP x) (foldP_ok hx) (by have := foldP_size x; omega)
    rw [fold_twice hx] at h2
    have h3 := ref03_SameExpr_is (foldP x) (foldP_ok hx) (foldP x) (foldP_ok hx)
    rw [Ex.same_iff.2 rfl] at h3
    simp [h1, h2, h3]
end Go.Proofs.Ytipjanijidbelaa
