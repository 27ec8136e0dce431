/- Chapter 01 in plain Lean: the law of all symbols. -/
import Derived.Test.YtjgbhajaiifimaaDoorL01c
import Derived.Test.YtjgbhajaiifimaaDoorPx7
namespace Go.Proofs.YtjgbhajaiifimaaDoor.P
open Go.RowKit Go.Proofs.YtjgbhajaiifimaaDoorW.PrintWords Go.Proofs.YtjgbhajaiifimaaDoorW.PrintLast Go.Proofs.YtjgbhajaiifimaaDoorW.PrintMore
set_option linter.unusedVariables false
set_option linter.unusedSimpArgs false
theorem SymAll_pure (b : List Int) (hl : b.length * 1 ≤ 140737488351232) (hw : ∀ x ∈ b, (Lit.int .u8 x).wf = true) : ∃ k, clewlaw01_SymAll.f k b = some true := by
  have hb := isBytes_of hw
  refine ⟨b.length + 16, ?_⟩
  unfold clewlaw01_SymAll.f
  rw [anchor01_eq, Option.bind_some, if_pos rfl]
  by_cases h : (b.length : Int) > 100000
  · rw [if_pos h]
  · have h1 := symsR_length b
    have h2 := startsR_length b
    rw [if_neg h, RefAll_eq hb (by omega) _ (Nat.le_refl _), Option.bind_some, All_eq hb (by omega), Option.bind_some]
    dsimp only
    rw [same_refl _ (by omega) _ (by omega), Option.bind_some, if_pos rfl, Starts_eq hb (by omega), Option.bind_some, same_refl _ (by omega) _ (by omega), Option.bind_some]
end Go.Proofs.YtjgbhajaiifimaaDoor.P
