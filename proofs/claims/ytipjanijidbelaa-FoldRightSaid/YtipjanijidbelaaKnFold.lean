/- The fixed calls of the folding layer. Own work. -/
import Derived.Test.YtipjanijidbelaaKnFoldA
import Derived.Test.YtipjanijidbelaaPxS
import Derived.Test.YtipjanijidbelaaRFoldKn
namespace Go.Proofs.Ytipjanijidbelaa
open Go Go.Proofs.Ab Go.Proofs.Px
set_option maxRecDepth 100000
theorem law05_known_is : den Sp law05_known.id [] [] none = some ⟨.ret (.bool true), [], none⟩ := by
  rw [law05_known.eq]
  simp only [kf_read1, kf_read2, kf_read3, kf_read4, kf_read5, kf_read6, kf_eval1, kf_eval2, kf_lit, kf_const, kf_expr3, kf_expr2, kf_same1, kf_same2, kf_traps1, kf_traps2, Option.bind_some, onRet_ret, asAgg_agg, asTup_tup, List.length_cons, List.length_nil, Nat.zero_add, Nat.reduceAdd, List.getD_cons_zero, List.getD_cons_succ, asInt_int, asStr_str, asSl_sl, asBool_bool]
  rfl
end Go.Proofs.Ytipjanijidbelaa
