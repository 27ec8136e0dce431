/- The law's own examples. -/
import Derived.Test.YtlofoifcdmeopaaGreatDoorUA8a
import Derived.Test.YtlofoifcdmeopaaGreatDoorUA8b
import Derived.Test.YtlofoifcdmeopaaGreatDoorVULanchor
namespace Go.Proofs.YtlofoifcdmeopaaGreatDoor.V
open Go Go.Ev Go.RowKit
theorem anchor08_E : E C 28 [] = some [.bool true] := by
  apply o28
  rw [dT (by decide), bT parse81, dT (by decide), bT parse82]
  kernel_rfl
end Go.Proofs.YtlofoifcdmeopaaGreatDoor.V
