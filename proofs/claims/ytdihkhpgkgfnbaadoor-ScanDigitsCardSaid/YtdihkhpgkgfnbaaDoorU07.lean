/- The document's examples of layer 7. -/
import Derived.Test.YtdihkhpgkgfnbaaDoorUBas
import Derived.KernelRfl
namespace Go.Proofs.YtdihkhpgkgfnbaaDoor.V
open Go Go.Ev Go.RowKit
theorem anchor07_E : E C 4 [] = some [.bool true] := E_from 60 fun n => by kernel_rfl
end Go.Proofs.YtdihkhpgkgfnbaaDoor.V
