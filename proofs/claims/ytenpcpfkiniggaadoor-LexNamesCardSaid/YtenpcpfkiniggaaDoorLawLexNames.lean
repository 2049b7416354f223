/- LexNames: of any text both tell alike whether it is a name. Own work. -/
import Derived.Test.YtenpcpfkiniggaaDoorLexA
import Derived.Test.YtenpcpfkiniggaaDoorKnA
namespace Go.Proofs.YtenpcpfkiniggaaDoor
open Go Go.Proofs.Ab Go.Proofs.Px

theorem lexNames_den (s : ByteArray) (hs : s.size ≤ 140737488351232) : den Sp law02_LexNames.id [.str s] [] none = some ⟨.ret (.bool true), [], none⟩ := by
  rw [law02_LexNames.eq, lex_IsName_is s (by omega), ref02_IsName_is s (by omega), law02_known_is]
  by_cases h : ((s.size : Int) > 3000)
  · simp [h]
  · simp [h]
end Go.Proofs.YtenpcpfkiniggaaDoor
