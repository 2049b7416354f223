/- FoldEvals: any expression is worth alike by both, at any values. Own work. -/
import Derived.Test.YtipjanijidbelaaEnvIn
import Derived.Test.YtipjanijidbelaaKnFold
import Derived.Test.YtipjanijidbelaaRFoldEvals
namespace Go.Proofs.Ytipjanijidbelaa
open Go Go.Proofs.Ab Go.Proofs.Px
set_option linter.unusedVariables false
set_option linter.unusedSimpArgs false
set_option maxRecDepth 100000

theorem foldEvals_den (x0 : List V) (h0 : Fits Sp.P Sp.pz T_api_Expr x0) (x1 : List V) (h1 : Fits Sp.P Sp.pz T_parallaxref05_Env x1) : den Sp law05_FoldEvals.id [.agg x0, .agg x1] [] none = some ⟨.ret (.bool true), [], none⟩ := by
  obtain ⟨x, rfl, hx⟩ := expr_in h0
  obtain ⟨e, rfl, he, g0, g1, g2, g3, g4⟩ := env_in h1
  obtain ⟨b, hb, _⟩ := law05_great_is x hx
  obtain ⟨c, hc⟩ := law05_many_is e g0 g1 g2 g3 g4
  have ho := law05_own_is e
  have hf := fold_Eval_is e he x hx
  have hr := ref05_Eval_is e he x hx
  have c2 : List.contains [2] 2 = true := rfl
  unfold Ev.v at *
  rw [Ex.v_is] at hb hf hr ⊢
  rw [law05_FoldEvals.eq, c2, tokOf_tkz, hb, hc, ho, hr, law05_known_is]
  simp only [Option.bind_some, onRet_ret, asBool_bool]
  cases b with
  | true => rfl
  | false =>
    cases c with
    | true => rfl
    | false =>
      cases hz : e.vz <;> simp only [hz, tkz_true, tkz_false] at hf <;> simp [hf, retII]
end Go.Proofs.Ytipjanijidbelaa
