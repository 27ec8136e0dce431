/- All functions that are given, as the reader has them. -/
import Derived.Test.YtlofoifcdmeopaaGreatDoorVCa
import Derived.Test.YtlofoifcdmeopaaGreatDoorVDec
import Derived.Test.YtlofoifcdmeopaaGreatDoorVSortI
import Derived.Test.YtlofoifcdmeopaaGreatDoorVSortR
import Derived.Test.YtlofoifcdmeopaaGreatDoorVClone
import Derived.Test.YtlofoifcdmeopaaGreatDoorVCut
import Derived.Test.YtlofoifcdmeopaaGreatDoorEc
namespace Go.Proofs.YtlofoifcdmeopaaGreatDoor.V
open Go Go.Ev Go.RowKit
set_option linter.unusedVariables false
set_option maxRecDepth 100000
theorem givenC : ∀ g h args ds, C.given g = some h → h args = some ds → FnR Tryz.prog C g args ds := by
  intro g h args ds hg hd
  have hg' : pickUp g givens = some h := hg
  unfold givens at hg'
  rcases pickUp_cases hg' with ⟨rfl, rfl⟩ | hg'
  · exact dec_ok hd
  rcases pickUp_cases hg' with ⟨rfl, rfl⟩ | hg'
  · exact sort_ok hd
  rcases pickUp_cases hg' with ⟨rfl, rfl⟩ | hg'
  · exact sortr_ok hd
  rcases pickUp_cases hg' with ⟨rfl, rfl⟩ | hg'
  · exact clone_ok hd
  rcases pickUp_cases hg' with ⟨rfl, rfl⟩ | hg'
  · exact cut_ok hd
  cases hg'
theorem intsOk {W : World} (h : W.ShapedOpen Tryz.prog) : IntsOk C W := by
  intro p hp
  obtain rfl : p = (4, intO .i64) := List.mem_singleton.1 (show p ∈ [(4, intO IntKind.i64)] from hp)
  obtain ⟨m, hm⟩ := Go.Proofs.cell_of_shapedOpen_int (t := 3) (zero := #[.int .i64 0]) h (of_decide_eq_true (by kernel_rfl)) (by kernel_rfl) rfl (by kernel_rfl) (by kernel_rfl) Tryz.underlying3
  unfold World.cell? at hm
  split at hm
  · rename_i c e f ho
    exact ⟨_, ho, c, e, f, m, rfl, by simpa using hm⟩
  · cases hm
end Go.Proofs.YtlofoifcdmeopaaGreatDoor.V
