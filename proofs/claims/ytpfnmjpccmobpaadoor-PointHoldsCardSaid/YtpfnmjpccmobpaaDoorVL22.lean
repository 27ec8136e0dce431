/- What the listed tables say of the world: this chapter's functions read none of them. -/
import Derived.Test.YtpfnmjpccmobpaaDoorVCa
import Derived.Test.YtpfnmjpccmobpaaDoorTie
import Derived.PinnedBridge
import Derived.ProofKit
import Derived.Lay
import Derived.LaidOnce
import Derived.SevenTiedAt
namespace Go.Proofs.YtpfnmjpccmobpaaDoor.V
open Go Go.Ev Go.RowKit Go.Shelf Go.Lib
/-- The tables that every row of this seat lists. -/
def laidT : List (String × DataW Unit) := [("math/bits.deBruijn32tab", Rows.laid_math_bits_deBruijn32tab), ("math/bits.deBruijn64tab", Rows.laid_math_bits_deBruijn64tab), ("internal/strconv.uint64pow10", Rows.laid_internal_strconv_uint64pow10)]
def TabsOk (_ : World) : Prop := True
theorem tabs_of_laid {W : World} (_ : laidMetH Tryd.prog laidT W) : TabsOk W := trivial
theorem globOk {w : World} (_ : TabsOk w) : GlobOk C w := by
  intro g v hv
  have hv' : pickUp g globs = some v := hv
  cases hv'
theorem givenC : ∀ g h args ds, C.given g = some h → h args = some ds → FnR Tryd.prog C g args ds := by
  intro g h args ds hg hd
  have hg' : pickUp g givens = some h := hg
  cases hg'
end Go.Proofs.YtpfnmjpccmobpaaDoor.V
