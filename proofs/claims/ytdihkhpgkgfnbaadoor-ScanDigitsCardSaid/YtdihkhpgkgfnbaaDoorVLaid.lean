/- What the listed tables say of the world. -/
import Derived.Test.YtdihkhpgkgfnbaaDoorTie
import Derived.Test.YtdihkhpgkgfnbaaDoorVDec
import Derived.PinnedBridge
import Derived.Lib.LaidU8T
import Derived.ProofKit
import Derived.Lay
import Derived.LaidOnce
import Derived.SevenTiedAt
namespace Go.Proofs.YtdihkhpgkgfnbaaDoor.V
open Go.RowKit Go.Shelf Go.Lib

/-- The tables that every row of this seat lists. -/
def laidT : List (String × DataW Unit) := [("unicode/utf8.acceptRanges", Rows.laid_unicode_utf8_acceptRanges), ("unicode/utf8.first", Rows.laid_unicode_utf8_first)]
def renT : Ren := ⟨fun x => x, fun x => if x = 5 then 5 else if x = 119 then 111 else if x = 138 then 113 else 114, fun x => if x = 3 then 0 else 1⟩
theorem typesT : U8Types Tryd.prog renT := ⟨Tryd.underlying5, Tryd.underlying111, Tryd.underlying113, Tryd.underlying114⟩
theorem extraT : U8Extra Tryd.prog renT := ⟨by kernel_rfl, by kernel_rfl, by kernel_rfl, by kernel_rfl, by kernel_rfl, by kernel_rfl, by kernel_rfl⟩
theorem acceptT_eq : (Rows.laid_unicode_utf8_acceptRanges : DataW Unit) = acceptData := by kernel_rfl
theorem tabs_of_laid {W : World} (h : laidMetH Tryd.prog laidT W) : TabsOk W := by
  rw [MakeChecks.laidMetH_plain _ _ _ (by kernel_rfl)] at h
  exact utf8Tabs_of_readsT typesT extraT (Pinned.utf8First_eq ▸ Lib.laidMet.reads h (.tail _ (.head _))) (acceptT_eq ▸ Lib.laidMet.reads h (.head _))
end Go.Proofs.YtdihkhpgkgfnbaaDoor.V
