/- The law's own examples. -/
import Derived.Test.YtlofoifcdmeopaaGreatDoorUBas
import Derived.KernelRfl
namespace Go.Proofs.YtlofoifcdmeopaaGreatDoor.V
open Go Go.Ev Go.RowKit
theorem anchor09_E : E C 36 [] = some [.bool true] := E_from 60 fun n => by kernel_rfl
end Go.Proofs.YtlofoifcdmeopaaGreatDoor.V
