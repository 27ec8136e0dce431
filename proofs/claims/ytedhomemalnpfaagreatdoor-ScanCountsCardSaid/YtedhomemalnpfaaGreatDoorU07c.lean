/- ScanCounts: any quantifier has the document's counts and mode, or the document's error; what is none is none. -/
import Derived.Test.YtedhomemalnpfaaGreatDoorUCnt
import Derived.Test.YtedhomemalnpfaaGreatDoorVTLScanCounts
import Derived.Test.YtedhomemalnpfaaGreatDoorU07
namespace Go.Proofs.YtedhomemalnpfaaGreatDoor.V
open Go Go.Ev Go.RowKit
set_option linter.unusedVariables false
set_option linter.unusedSimpArgs false
theorem ScanCounts_pure (e0 e1 : Dat) (h0 : fitT C.T 9 22 e0) (h1 : fitT C.T 9 3 e1) : E C 4 [.shr 5 e0.L, .int .i64 e1.I] = some [.bool true] := by
  obtain ⟨b, rfl, hb, hbl⟩ := fit_bytes h0
  obtain ⟨i, rfl, hi⟩ := fit_i64 h1
  apply o4
  rw [bT anchor07_E]
  simp only [rd0, datB, datI, datL]
  rw [nF rfl, bT (Count_E b hbl i), bT (Count2_E b hbl i), cT (by simp), eT rfl]
  simp
end Go.Proofs.YtedhomemalnpfaaGreatDoor.V
