/- The law's own examples: the first pattern. -/
import Derived.Test.YtlofoifcdmeopaaGreatDoorUPs
import Derived.KernelRfl
namespace Go.Proofs.YtlofoifcdmeopaaGreatDoor.V
open Go Go.Ev Go.RowKit
def tree81 : Dat := .agg [.list [nodeD ⟨6, 0, 7, 0, 0, 0, 0, ByteArray.empty, [], [1, 2]⟩, nodeD ⟨2, 0, 1, 0, 0, 0, 0, ByteArray.empty, [(97, 97)], []⟩, nodeD ⟨9, 2, 7, 0, 0, 0, 0, ByteArray.empty, [], [3]⟩, nodeD ⟨8, 2, 7, 0, 0, -1, 0, ByteArray.empty, [], [4]⟩, nodeD ⟨7, 2, 5, 1, 0, 0, 0, ByteArray.empty, [], [5]⟩, nodeD ⟨2, 3, 4, 0, 0, 0, 0, ByteArray.empty, [(98, 98)], []⟩], .int 1, .list [.str ByteArray.empty, .str ByteArray.empty]]
theorem parse81 : E C 26 [.shr 5 ([.int 97, .int 124, .int 40, .int 98, .int 41, .int 42, .int 43] : List Dat)] = some [tree81, .int 0, .int 0] := E_from 60 fun n => by kernel_rfl
end Go.Proofs.YtlofoifcdmeopaaGreatDoor.V
