/- Chapter 01 in plain Lean, second part: the example, and the law of the symbol at a place. -/
import Derived.Test.YtjgbhajaiifimaaDoorGSyms
import Derived.Test.YtjgbhajaiifimaaDoorGAnchor01
import Derived.Test.YtjgbhajaiifimaaDoorPx3
namespace Go.Proofs.YtjgbhajaiifimaaDoor.P
open Go.RowKit Go.Proofs.YtjgbhajaiifimaaDoorW.PrintWords Go.Proofs.YtjgbhajaiifimaaDoorW.PrintLast Go.Proofs.YtjgbhajaiifimaaDoorW.PrintMore
set_option linter.unusedVariables false
set_option linter.unusedSimpArgs false

theorem isBytes_of {l : List Int} (h : ∀ x ∈ l, (Lit.int .u8 x).wf = true) : isBytes l = true := by
  unfold isBytes
  rw [List.all_eq_true]
  intro x hx
  have := h x hx
  simp only [Lit.wf, IntKind.min, IntKind.max, IntKind.signed, IntKind.bits, Bool.and_eq_true, decide_eq_true_eq] at this ⊢
  simp at this
  omega
theorem anchor01_eq : clewlaw01_anchor.f = some true := rfl
theorem SymAt_pure (b : List Int) (i : Int) (hl : b.length * 1 ≤ 140737488351232) (hw : ∀ x ∈ b, (Lit.int .u8 x).wf = true) (_ : (Lit.int .i64 i).wf = true) : ∃ k, clewlaw01_SymAt.f k b i = some true := by
  have hb := isBytes_of hw
  refine ⟨14, ?_⟩
  unfold clewlaw01_SymAt.f
  rw [anchor01_eq, Option.bind_some, if_pos rfl, sym_At_eq hb (by omega) i 13, Option.bind_some]
  by_cases h0 : i < 0
  · have hR : symR b i = (0, 0) := by
      unfold symR
      rw [if_neg (by omega)]
    rw [if_pos h0, hR]
    rfl
  · rw [if_neg h0]
    by_cases h1 : i ≥ (b.length : Int)
    · have hR : symR b i = (0, 0) := by
        unfold symR
        rw [if_neg (by omega)]
      rw [if_pos h1, hR]
      rfl
    · obtain ⟨n, rfl⟩ : ∃ n : Nat, i = (n : Int) := ⟨i.toNat, by omega⟩
      have hR : symR b (n : Int) = symA b n := by
        unfold symR
        rw [if_pos (by omega)]
        rfl
      rw [if_neg h1, hR, Ref_eq hb (by omega) n (by omega) 0, Option.bind_some]
      simp
end Go.Proofs.YtjgbhajaiifimaaDoor.P
