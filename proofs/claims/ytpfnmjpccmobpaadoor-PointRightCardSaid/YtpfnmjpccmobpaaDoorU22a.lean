/- PointRight: any point may be, in any right tree, just if the document says so. -/
import Derived.Test.YtpfnmjpccmobpaaDoorUTof
import Derived.Test.YtpfnmjpccmobpaaDoorVTPt
import Derived.Test.YtpfnmjpccmobpaaDoorVTLPointRight
import Derived.Test.YtpfnmjpccmobpaaDoorUA22
namespace Go.Proofs.YtpfnmjpccmobpaaDoor.V
open Go Go.Ev Go.RowKit
set_option linter.unusedVariables false
set_option linter.unusedSimpArgs false
theorem fit_point {k : Nat} {d : Dat} (h : fitT C.T (k + 2) 23 d) : ∃ a b : Int, d = .agg [.int a, .int b] ∧ i64P a ∧ i64P b := by
  obtain ⟨l, rfl, h1⟩ := fit_struct (t := 23) (ti := ⟨2, 16, [.int .i64, .int .i64], true, .struct [(0, 3), (1, 3)]⟩) rfl rfl h
  obtain ⟨d0, l, rfl, g0, h1⟩ := fitF_one h1 tyi rfl
  obtain ⟨d1, l, rfl, g1, h1⟩ := fitF_one h1 tyi rfl
  obtain rfl : l = [] := h1
  obtain ⟨a, rfl, ha⟩ := fit_i64 g0
  obtain ⟨b, rfl, hb⟩ := fit_i64 g1
  exact ⟨a, b, rfl, ha, hb⟩
theorem withinP_E (x a b : Int) : E C 65 [.int .i64 x, .int .i64 a, .int .i64 b] = some [.bool (wi x a b)] := by
  apply o65
  unfold wi
  cases decide (x ≥ a) <;> rfl
def ptR (w a n g : Int) : Bool := if w = 1 then wi a 0 (n - 1) else if w = 2 then wi a 0 65536 else if w = 3 then wi a 1 14 else if w = 4 then wi a 0 g else if w = 5 then wi a 1 65536 else false
theorem PtRight_E {t : Tr} (ht : OkT t) (w a : Int) : E C 27 [.agg [.int .i64 w, .int .i64 a], .agg [.shr 57 (nsD t.ns), .int .i64 t.groups, .shr 9 (t.names.map .str)]] = some [.bool (ptR w a (t.ns.length : Int) t.groups)] := by
  have hns := ht.ns
  apply o27
  simp only [withinP_E, Option.bind_some, rd0, datB, nsD_len]
  rw [w64 (n := (t.ns.length : Int) - 1) (by omega) (by omega)]
  unfold ptR
  by_cases h1 : w = 1
  · rw [eT h1, if_pos h1]
  rw [eF h1, if_neg h1]
  by_cases h2 : w = 2
  · rw [eT h2, if_pos h2]
  rw [eF h2, if_neg h2]
  by_cases h3 : w = 3
  · rw [eT h3, if_pos h3]
  rw [eF h3, if_neg h3]
  by_cases h4 : w = 4
  · rw [eT h4, if_pos h4]
  rw [eF h4, if_neg h4]
  by_cases h5 : w = 5
  · rw [eT h5, if_pos h5]
  rw [eF h5, if_neg h5]
theorem PointRight_pure (e0 e1 : Dat) (h0 : fitT C.T 9 33 e0) (h1 : fitT C.T 9 23 e1) : E C 5 [.agg [.shr 57 (e0.C 0).L, .int .i64 (e0.C 1).I, .shr 9 (e0.C 2).L], .agg [.int .i64 (e1.C 0).I, .int .i64 (e1.C 1).I]] = some [.bool true] := by
  obtain ⟨t, rfl, ht⟩ := fit_tree h0
  obtain ⟨w, a, rfl, hw, ha⟩ := fit_point h1
  have hns := ht.ns
  apply o5
  rw [bT anchor22_E]
  simp only [treeD, aggC0, aggC1, aggC2, rd0, datB, datI, datL]
  rw [nF rfl, nsD_len]
  by_cases hl : (t.ns.length : Int) > 60
  · rw [dT hl]
  rw [dF hl, bT (of_E ht)]
  simp only [treeD, aggC0, aggC1, aggC2, rd0, datB, datI, datL]
  rw [bT (RightR_E ht)]
  simp only [rd0, datB]
  cases rightB t with
  | false => rfl
  | true =>
    rw [nF rfl, w64 (n := (t.ns.length : Int) - 1) (by omega) (by omega)]
    simp only [PtRight_E ht, Option.bind_some, rd0, datB]
    by_cases h1 : w < 1
    · rw [dT h1]
      unfold ptR
      rw [if_neg (by omega), if_neg (by omega), if_neg (by omega), if_neg (by omega), if_neg (by omega)]
      rfl
    rw [dF h1]
    by_cases h5 : w > 5
    · rw [dT h5]
      unfold ptR
      rw [if_neg (by omega), if_neg (by omega), if_neg (by omega), if_neg (by omega), if_neg (by omega)]
      rfl
    rw [dF h5]
    have hw5 : w = 1 ∨ w = 2 ∨ w = 3 ∨ w = 4 ∨ w = 5 := by omega
    have fin : ∀ lo hi : Int, (bif decide (a ≥ lo) then (some [.bool (wi a lo hi == decide (a ≤ hi))] : R) else some [.bool (wi a lo hi == false)]) = some [.bool true] := by
      intro lo hi
      unfold wi
      cases decide (a ≥ lo) <;> cases decide (a ≤ hi) <;> rfl
    rcases hw5 with rfl | rfl | rfl | rfl | rfl
    · exact fin 0 ((t.ns.length : Int) - 1)
    · exact fin 0 65536
    · exact fin 1 14
    · exact fin 0 t.groups
    · exact fin 1 65536
end Go.Proofs.YtpfnmjpccmobpaaDoor.V
