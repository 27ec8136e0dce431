/- The law's own examples. -/
import Derived.Test.YtpfnmjpccmobpaaDoorUBas
import Derived.KernelRfl
namespace Go.Proofs.YtpfnmjpccmobpaaDoor.V
open Go Go.Ev Go.RowKit
theorem anchor06_E : E C 28 [] = some [.bool true] := E_from 60 fun n => by kernel_rfl
end Go.Proofs.YtpfnmjpccmobpaaDoor.V
