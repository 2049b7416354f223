/- The fixed calls of the checking layer. Own work. -/
import Derived.Test.YtkelkkjkbpdldaaKnCheckA
import Derived.Test.YtkelkkjkbpdldaaPxS
import Derived.Test.YtkelkkjkbpdldaaRKn
namespace Go.Proofs.Ytkelkkjkbpdldaa
open Go Go.Proofs.Ab Go.Proofs.Px
set_option maxRecDepth 100000
theorem law04_known_is : den Sp law04_known.id [] [] none = some ⟨.ret (.bool true), [], none⟩ := by
  rw [law04_known.eq]
  simp only [ref03_Parse.eq, kc_scan1, kc_scan2, kc_read1, kc_read2, kc_check1, kc_check2, kc_type, Option.bind_some, onRet_ret, asAgg_agg, asTup_tup, List.length_cons, List.length_nil, Nat.zero_add, Nat.reduceAdd, List.getD_cons_zero, List.getD_cons_succ, asInt_int, asStr_str, asSl_sl, asBool_bool, bne_self_eq_false, cond_false]
  rfl
end Go.Proofs.Ytkelkkjkbpdldaa
