/- CmdNames: any command's word is the document's, and is read as it, if it needs nothing behind it. -/
import Derived.Test.YtpfnmjpccmobpaaDoorU26r
import Derived.Test.YtpfnmjpccmobpaaDoorVXLCmdNames
namespace Go.Proofs.YtpfnmjpccmobpaaDoor.V
open Go Go.Ev Go.RowKit
set_option linter.unusedVariables false
set_option linter.unusedSimpArgs false
set_option maxRecDepth 100000
theorem names_1 : E C 12 [.int .i64 1] = some [.bool true] := E_from 60 fun n => by kernel_rfl
theorem names_2 : E C 12 [.int .i64 2] = some [.bool true] := E_from 60 fun n => by kernel_rfl
theorem names_3 : E C 12 [.int .i64 3] = some [.bool true] := E_from 60 fun n => by kernel_rfl
theorem names_4 : E C 12 [.int .i64 4] = some [.bool true] := E_from 60 fun n => by kernel_rfl
theorem names_5 : E C 12 [.int .i64 5] = some [.bool true] := E_from 60 fun n => by kernel_rfl
theorem names_6 : E C 12 [.int .i64 6] = some [.bool true] := E_from 60 fun n => by kernel_rfl
theorem names_7 : E C 12 [.int .i64 7] = some [.bool true] := E_from 60 fun n => by kernel_rfl
theorem names_8 : E C 12 [.int .i64 8] = some [.bool true] := E_from 60 fun n => by kernel_rfl
theorem names_9 : E C 12 [.int .i64 9] = some [.bool true] := E_from 60 fun n => by kernel_rfl
theorem names_10 : E C 12 [.int .i64 10] = some [.bool true] := E_from 60 fun n => by kernel_rfl
theorem names_11 : E C 12 [.int .i64 11] = some [.bool true] := E_from 60 fun n => by kernel_rfl
theorem names_12 : E C 12 [.int .i64 12] = some [.bool true] := E_from 60 fun n => by kernel_rfl
theorem names_13 : E C 12 [.int .i64 13] = some [.bool true] := E_from 60 fun n => by kernel_rfl
theorem names_14 : E C 12 [.int .i64 14] = some [.bool true] := E_from 60 fun n => by kernel_rfl
theorem CmdNames_pure (e0 : Dat) (h0 : fitT C.T 9 3 e0) : E C 12 [.int .i64 e0.I] = some [.bool true] := by
  obtain ⟨a, rfl, _⟩ := fit_i64 h0
  show E C 12 [.int .i64 a] = some [.bool true]
  by_cases h : 1 ≤ a ∧ a ≤ 14
  · have : a = 1 ∨ a = 2 ∨ a = 3 ∨ a = 4 ∨ a = 5 ∨ a = 6 ∨ a = 7 ∨ a = 8 ∨ a = 9 ∨ a = 10 ∨ a = 11 ∨ a = 12 ∨ a = 13 ∨ a = 14 := by omega
    rcases this with rfl | rfl | rfl | rfl | rfl | rfl | rfl | rfl | rfl | rfl | rfl | rfl | rfl | rfl
    · exact names_1
    · exact names_2
    · exact names_3
    · exact names_4
    · exact names_5
    · exact names_6
    · exact names_7
    · exact names_8
    · exact names_9
    · exact names_10
    · exact names_11
    · exact names_12
    · exact names_13
    · exact names_14
  · apply o12
    rw [bT anchor26_E]
    simp only [rd0, datB]
    rw [nF rfl]
    by_cases c1 : a < 1
    · rw [dT c1, bT (Name_E a), if_neg h]
      simp only [rd0, datS]
      rw [bsE, strEq, decide_eq_true rfl]
    · rw [dF c1, dT (by omega), bT (Name_E a), if_neg h]
      simp only [rd0, datS]
      rw [bsE, strEq, decide_eq_true rfl]
end Go.Proofs.YtpfnmjpccmobpaaDoor.V
