/- The document's examples of layer 26. -/
import Derived.Test.YtpfnmjpccmobpaaDoorUGf
import Derived.Test.YtpfnmjpccmobpaaDoorUBas
import Derived.KernelRfl
namespace Go.Proofs.YtpfnmjpccmobpaaDoor.V
open Go Go.Ev Go.RowKit
set_option maxRecDepth 100000
theorem anchor26_E : E C 49 [] = some [.bool true] := E_from 60 fun n => by kernel_rfl
end Go.Proofs.YtpfnmjpccmobpaaDoor.V
