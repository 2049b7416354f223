/- FoldWorth: a folded expression is worth what it was worth. Own work. -/
import Derived.Test.YtipjanijidbelaaEnvIn
import Derived.Test.YtipjanijidbelaaKnFold
import Derived.Test.YtipjanijidbelaaFoldE
import Derived.Test.YtipjanijidbelaaRFoldWorth
namespace Go.Proofs.Ytipjanijidbelaa
open Go Go.Proofs.Ab Go.Proofs.Px
set_option linter.unusedVariables false
set_option linter.unusedSimpArgs false
set_option maxRecDepth 100000

theorem foldWorth_den (x0 : List V) (h0 : Fits Sp.P Sp.pz T_api_Expr x0) (x1 : List V) (h1 : Fits Sp.P Sp.pz T_parallaxref05_Env x1) : den Sp law05_FoldWorth.id [.agg x0, .agg x1] [] none = some ⟨.ret (.bool true), [], none⟩ := by
  obtain ⟨x, rfl, hx⟩ := expr_in h0
  obtain ⟨e, rfl, he, g0, g1, g2, g3, g4⟩ := env_in h1
  obtain ⟨b, hb, hbs⟩ := law05_great_is x hx
  obtain ⟨c, hc⟩ := law05_many_is e g0 g1 g2 g3 g4
  have hr := ref05_Eval_is e he x hx
  have hr2 := ref05_Eval_is e he (foldP x) (foldP_ok hx)
  rw [worth_fold e he x hx] at hr2
  have c2 : List.contains [2] 2 = true := rfl
  unfold Ev.v at *
  rw [Ex.v_is, law05_FoldWorth.eq, c2, tokOf_tkz]
  simp only [Ex.v_list]
  rw [hb, hc, hr, law05_known_is]
  simp only [Option.bind_some, onRet_ret, asBool_bool]
  cases b with
  | true => rfl
  | false =>
    cases c with
    | true => rfl
    | false => simp [fold_Expr_is x hx (by have := hbs rfl; omega), hr2, retII]
end Go.Proofs.Ytipjanijidbelaa
