/- WellWidths, WellChecks. -/
import Derived.Test.YtlofoifcdmeopaaGreatDoorUWe3
import Derived.Test.YtlofoifcdmeopaaGreatDoorUTof
import Derived.Test.YtlofoifcdmeopaaGreatDoorVTLWellWidths
import Derived.Test.YtlofoifcdmeopaaGreatDoorVTLWellChecks
import Derived.Test.YtlofoifcdmeopaaGreatDoorUA09
namespace Go.Proofs.YtlofoifcdmeopaaGreatDoor.V
open Go Go.Ev Go.RowKit
set_option linter.unusedVariables false
set_option linter.unusedSimpArgs false
theorem ww_loop {t : Tr} (ht : OkT t) (hl : t.ns.length ≤ 1000000) (h : RT t) (x0 x2 v3 : List Dat) (x1 : Int) (v2 : Bool) : ∀ (d m : Nat), d = t.ns.length - m → m ≤ t.ns.length →
    M9_1 x0 x1 x2 (nsD t.ns) t.groups (t.names.map .str) v2 v3 (wTail t.ns 0) (t.ns.length : Int) (m : Int) = some [.bool true]
  | 0, m, e, hm => by
    apply M9_1_of
    rw [dF (by omega)]
  | d + 1, m, e, hm => by
    have hns := ht.ns
    have hw : rd (wTail t.ns 0) m = wD (wd t.ns (m : Int)) := by
      have := wTail_rd t.ns (Nat.zero_le m) (show m < t.ns.length by omega)
      rwa [Nat.sub_zero] at this
    apply M9_1_of
    rw [dT (by omega), wTail_len, ixT ⟨by omega, by omega⟩, bT (of_E ht)]
    simp only [treeD, rd0, aggC0, aggC1, aggC2, datL, datI]
    rw [bT (Width_E ht hl h (show m < t.ns.length by omega)), Int.toNat_natCast, hw]
    simp only [wD, rd0, rd1, aggC0, aggC1, datI]
    rw [neF rfl, neF rfl, upk (n := t.ns.length) (by omega) (by omega)]
    exact ww_loop ht hl h x0 x2 v3 x1 v2 d (m + 1) (by omega) (by omega)
theorem WellWidths_pure (e0 : Dat) (h0 : fitT C.T 9 25 e0) : E C 9 [.agg [.shr 38 (e0.C 0).L, .int .i64 (e0.C 1).I, .shr 9 (e0.C 2).L]] = some [.bool true] := by
  obtain ⟨t, rfl, ht⟩ := fit_tree h0
  have hns := ht.ns
  apply o9
  rw [bT anchor09_E]
  simp only [treeD, aggC0, aggC1, aggC2, rd0, datB, datI, datL]
  rw [nF rfl, nsD_len]
  by_cases g1 : (t.ns.length : Int) > 150
  · rw [dT g1]
  rw [dF g1, bT (of_E ht)]
  simp only [treeD, rd0, aggC0, aggC1, aggC2, datL, datI]
  rw [bT (RightR_E ht)]
  simp only [rd0, datB]
  cases hb : rightB t with
  | false => rfl
  | true =>
  obtain ⟨r1, r2⟩ := right_laid hb
  have h : RT t := ⟨r1, r2⟩
  rw [nF rfl, bT (Widths_E ht h)]
  simp only [rd0, datL]
  rw [wTail_len, Nat.sub_zero, neF rfl]
  exact ww_loop ht (by omega) h _ _ _ _ _ _ 0 rfl (by omega)
theorem WellChecks_pure (e0 : Dat) (h0 : fitT C.T 9 25 e0) : E C 10 [.agg [.shr 38 (e0.C 0).L, .int .i64 (e0.C 1).I, .shr 9 (e0.C 2).L]] = some [.bool true] := by
  obtain ⟨t, rfl, ht⟩ := fit_tree h0
  apply o10
  rw [bT anchor09_E]
  simp only [treeD, aggC0, aggC1, aggC2, rd0, datB, datI, datL]
  rw [nF rfl, nsD_len]
  by_cases g1 : (t.ns.length : Int) > 150
  · rw [dT g1]
  rw [dF g1, bT (of_E ht)]
  simp only [treeD, rd0, aggC0, aggC1, aggC2, datL, datI]
  rw [bT (RightR_E ht)]
  simp only [rd0, datB]
  cases hb : rightB t with
  | false => rfl
  | true =>
  obtain ⟨r1, r2⟩ := right_laid hb
  have h : RT t := ⟨r1, r2⟩
  rw [nF rfl, bT (Check_E ht h), bT (of_E ht)]
  simp only [treeD, rd0, aggC0, aggC1, aggC2, datL, datI]
  rw [bT (CheckR_E ht h)]
  simp only [rd0, rd1, datI]
  rw [eT rfl]
  simp
end Go.Proofs.YtlofoifcdmeopaaGreatDoor.V
