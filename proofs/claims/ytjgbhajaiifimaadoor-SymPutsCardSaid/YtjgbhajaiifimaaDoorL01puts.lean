/- Chapter 01 in plain Lean: the law of one number's bytes. -/
import Derived.Test.YtjgbhajaiifimaaDoorL01d
import Derived.Test.YtjgbhajaiifimaaDoorPx5
namespace Go.Proofs.YtjgbhajaiifimaaDoor.P
open Go.RowKit Go.Proofs.YtjgbhajaiifimaaDoorW.PrintWords Go.Proofs.YtjgbhajaiifimaaDoorW.PrintLast Go.Proofs.YtjgbhajaiifimaaDoorW.PrintMore
set_option linter.unusedVariables false
set_option linter.unusedSimpArgs false
theorem SymPuts_pure (x : Int) (_ : (Lit.int .i64 x).wf = true) : ∃ k, clewlaw01_SymPuts.f k x = some true := by
  refine ⟨2, ?_⟩
  unfold clewlaw01_SymPuts.f
  rw [anchor01_eq, Option.bind_some, if_pos rfl]
  cases h : isSym x with
  | true =>
    have hp := putR_bytes h
    rw [sym_Put_eq h 1, Option.bind_some, RefIs_eq, Option.bind_some, h, if_pos rfl]
    dsimp only
    rw [sym_At_eq hp.1 (by omega) 0 1, Option.bind_some, back_put h, sym_Is_eq x 1, Option.bind_some, h, if_pos rfl, if_pos rfl, RefPut_eq h, Option.bind_some, if_pos rfl]
    dsimp only
    rw [if_pos rfl, beq_self_eq_true]
  | false =>
    rw [sym_Put_no h 1, Option.bind_some, RefIs_eq, Option.bind_some, h, if_neg (by simp), sym_Is_eq x 1, Option.bind_some, h, if_neg (by simp)]
    rfl
end Go.Proofs.YtjgbhajaiifimaaDoor.P
