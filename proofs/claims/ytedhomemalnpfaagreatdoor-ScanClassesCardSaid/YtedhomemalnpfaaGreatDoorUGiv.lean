/- All functions that are given, as the reader has them. -/
import Derived.Test.YtedhomemalnpfaaGreatDoorVCa
import Derived.Test.YtedhomemalnpfaaGreatDoorVDec
import Derived.Test.YtedhomemalnpfaaGreatDoorVSortI
import Derived.Test.YtedhomemalnpfaaGreatDoorVSortR
import Derived.Test.YtedhomemalnpfaaGreatDoorVClone
import Derived.Test.YtedhomemalnpfaaGreatDoorVCut
import Derived.Test.YtedhomemalnpfaaGreatDoorEc
namespace Go.Proofs.YtedhomemalnpfaaGreatDoor.V
open Go Go.Ev Go.RowKit
set_option linter.unusedVariables false
set_option maxRecDepth 100000
theorem givenC : ∀ g h args ds, C.given g = some h → h args = some ds → FnR Tryz.prog C g args ds := by
  intro g h args ds hg hd
  have hg' : pickUp g givens = some h := hg
  unfold givens at hg'
  rcases pickUp_cases hg' with ⟨rfl, rfl⟩ | hg'
  · exact dec_ok hd
  rcases pickUp_cases hg' with ⟨rfl, rfl⟩ | hg'
  · exact sort_ok hd
  rcases pickUp_cases hg' with ⟨rfl, rfl⟩ | hg'
  · exact sortr_ok hd
  rcases pickUp_cases hg' with ⟨rfl, rfl⟩ | hg'
  · exact clone_ok hd
  rcases pickUp_cases hg' with ⟨rfl, rfl⟩ | hg'
  · exact cut_ok hd
  cases hg'
theorem intsOk {W : World} (h : W.ShapedOpen Tryz.prog) : IntsOk C W := by
  intro p hp
  obtain rfl : p = (2, .i64) := List.mem_singleton.1 (show p ∈ [(2, IntKind.i64)] from hp)
  exact Go.Proofs.cell_of_shapedOpen_int (t := 3) (zero := #[.int .i64 0]) h (of_decide_eq_true (by kernel_rfl)) (by kernel_rfl) rfl (by kernel_rfl) (by kernel_rfl) Tryz.underlying3
end Go.Proofs.YtedhomemalnpfaaGreatDoor.V
