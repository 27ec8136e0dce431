/- clewref05.Has, by hand, for every name and every number: the call answers whether the number is one of those with the name, and whether there is such a name; nothing that was there is turned. -/
import Derived.Test.YteploglmfmhppaaGRefHasA
import Derived.Test.YteploglmfmhppaaGRefHasB
import Derived.Laws.Tables
import Derived.Laws.StructEq
namespace Go.Proofs.Yteploglmfmhppaa.P
open Go.RowKit Go.Proofs.YteploglmfmhppaaW.PrintWords Go.Proofs.YteploglmfmhppaaW.PrintLast Go.Proofs.YteploglmfmhppaaW.PrintMore
set_option linter.unusedVariables false
set_option linter.unusedSimpArgs false

theorem clewref05_Has.calls (a0 : ByteArray) (a1 : Int) (r1 r2 : Bool) (w : World) (h : clewref05_Has.f a0 a1 = some (r1, r2)) :
    Calls Try.prog 39 #[.string a0, .int .i64 a1] w fun e w' => e = .returned (.tuple #[.bool r1, .bool r2]) ∧ Below w.heap.size w w' := by
  by_cases hs : (48 ≤ a1 ∧ a1 ≤ 57) ∨ (65 ≤ a1 ∧ a1 ≤ 70) ∨ (71 ≤ a1 ∧ a1 ≤ 90) ∨ (97 ≤ a1 ∧ a1 ≤ 102) ∨ (103 ≤ a1 ∧ a1 ≤ 122)
  · exact refHasA_calls a0 a1 r1 r2 w hs h
  · exact refHasB_calls a0 a1 r1 r2 w (by omega) h
end Go.Proofs.Yteploglmfmhppaa.P
