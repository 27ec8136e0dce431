/- What the package-level tables hold, as a fact on the world. -/
import Derived.WalkKit
import Derived.Shelf.Unicode.DecodeSlow
import Derived.Test.YtjgbhajaiifimaaDoorWWords
namespace Go.Proofs.YtjgbhajaiifimaaDoor.P
open Go.RowKit

/-- The two tables of the library's reader of symbols, as they are laid. -/
def TabsOk (w : World) : Prop := Go.Lib.Utf8Tabs 0 1 w
theorem TabsOk.below {w w' : World} (h : TabsOk w) (hb : Below w.heap.size w w') : TabsOk w' := Go.Proofs.Utf8Tabs_below h hb
end Go.Proofs.YtjgbhajaiifimaaDoor.P
