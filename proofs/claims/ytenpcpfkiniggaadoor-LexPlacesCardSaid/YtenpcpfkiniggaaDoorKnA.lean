/- The fixed calls of the first lexing layer: reckoned by the kernel. Own work. -/
import Derived.Test.YtenpcpfkiniggaaDoorCoreC
import Derived.Test.YtenpcpfkiniggaaDoorAbS
import Derived.KernelRfl
namespace Go.Proofs.YtenpcpfkiniggaaDoor
open Go Go.Proofs.Ab
set_option maxRecDepth 100000
theorem law02_known_is : den Sp law02_known.id [] [] none = some ⟨.ret (.bool true), [], none⟩ :=
  callN_le Sp 40 (fun _ => rfl) 14 (show callN Sp 40 14 law02_known.id [] [] none = some ⟨.ret (.bool true), [], none⟩ by kernel_rfl)
end Go.Proofs.YtenpcpfkiniggaaDoor
