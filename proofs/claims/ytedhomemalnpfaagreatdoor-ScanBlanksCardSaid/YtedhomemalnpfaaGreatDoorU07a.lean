/- ScanBlanks: what is skipped ends where the document says; there nothing more is skipped. -/
import Derived.Test.YtedhomemalnpfaaGreatDoorUSca
import Derived.Test.YtedhomemalnpfaaGreatDoorVTLScanBlanks
import Derived.Test.YtedhomemalnpfaaGreatDoorU07
namespace Go.Proofs.YtedhomemalnpfaaGreatDoor.V
open Go Go.Ev Go.RowKit
set_option linter.unusedVariables false
set_option linter.unusedSimpArgs false
theorem blankR_i64 {b : List Int} (hb : b.length ≤ 140737488351232) {i : Int} (hi : i64P i) : i64P (blankR b i) ∧ 0 ≤ blankR b i := by
  have h := skipL_le (b.drop (mx i 0).toNat) false
  rw [List.length_drop] at h
  have hm : 0 ≤ mx i 0 ∧ mx i 0 ≤ 9223372036854775807 ∧ (mx i 0 = i ∨ mx i 0 = 0) := by
    have := hi.2
    unfold mx
    split <;> omega
  unfold blankR i64P
  generalize skipL false (b.drop (mx i 0).toNat) = n at h ⊢
  have := hi.2
  omega
theorem blankR_again (b : List Int) (i : Int) : blankR b (blankR b i) = blankR b i := by
  have h0 : 0 ≤ mx i 0 := by unfold mx; split <;> omega
  have h1 : mx (blankR b i) 0 = blankR b i := by
    unfold mx
    rw [if_neg]
    unfold blankR
    omega
  have h2 : skipL false (b.drop (blankR b i).toNat) = 0 := by
    have := skipL_again (b.drop (mx i 0).toNat) false
    rw [List.drop_drop] at this
    unfold blankR
    rw [show (mx i 0 + ((skipL false (b.drop (mx i 0).toNat) : Nat) : Int)).toNat = (mx i 0).toNat + skipL false (b.drop (mx i 0).toNat) by omega]
    exact this
  show mx (blankR b i) 0 + ((skipL false (b.drop (mx (blankR b i) 0).toNat) : Nat) : Int) = _
  rw [h1, h2]
  simp
theorem ScanBlanks_pure (e0 e1 : Dat) (h0 : fitT C.T 9 22 e0) (h1 : fitT C.T 9 3 e1) : E C 7 [.shr 5 e0.L, .int .i64 e1.I] = some [.bool true] := by
  obtain ⟨b, rfl, hb, hbl⟩ := fit_bytes h0
  obtain ⟨i, rfl, hi⟩ := fit_i64 h1
  apply o7
  rw [bT anchor07_E]
  simp only [rd0, datB, datI, datL]
  rw [nF rfl, bT (Blank_E b hbl i hi), bT (Blank2_E b hbl i hi)]
  simp only [rd0, datI]
  rw [eT rfl, bT (Blank_E b hbl _ (blankR_i64 hbl hi).1), rd0, datI, blankR_again]
  simp
end Go.Proofs.YtedhomemalnpfaaGreatDoor.V
