/- What the listed tables say of the world. -/
import Derived.Test.YtlofoifcdmeopaaGreatDoorTie
import Derived.Test.YtlofoifcdmeopaaGreatDoorVDec
import Derived.PinnedBridge
import Derived.Lib.LaidU8T
import Derived.ProofKit
import Derived.Lay
import Derived.LaidOnce
import Derived.SevenTiedAt
namespace Go.Proofs.YtlofoifcdmeopaaGreatDoor.V
open Go.RowKit Go.Shelf Go.Lib

/-- The tables that every row of this seat lists. -/
def laidT : List (String × DataW Unit) := [("unicode/utf8.acceptRanges", Rows.laid_unicode_utf8_acceptRanges), ("unicode/utf8.first", Rows.laid_unicode_utf8_first)]
def renT : Ren := ⟨fun x => x, fun x => if x = 5 then 5 else if x = 119 then 319 else if x = 138 then 321 else 322, fun x => if x = 3 then 7 else 8⟩
theorem typesT : U8Types Tryz.prog renT := ⟨Tryz.underlying5, Tryz.underlying319, Tryz.underlying321, Tryz.underlying322⟩
theorem extraT : U8Extra Tryz.prog renT := ⟨by kernel_rfl, by kernel_rfl, by kernel_rfl, by kernel_rfl, by kernel_rfl, by kernel_rfl, by kernel_rfl⟩
theorem acceptT_eq : (Rows.laid_unicode_utf8_acceptRanges : DataW Unit) = acceptData := by kernel_rfl
theorem tabs_of_laid {W : World} (h : laidMetH Tryz.prog laidT W) : TabsOk W := by
  rw [MakeChecks.laidMetH_plain _ _ _ (by kernel_rfl)] at h
  exact utf8Tabs_of_readsT typesT extraT (Pinned.utf8First_eq ▸ Lib.laidMet.reads h (.tail _ (.head _))) (acceptT_eq ▸ Lib.laidMet.reads h (.head _))
end Go.Proofs.YtlofoifcdmeopaaGreatDoor.V
