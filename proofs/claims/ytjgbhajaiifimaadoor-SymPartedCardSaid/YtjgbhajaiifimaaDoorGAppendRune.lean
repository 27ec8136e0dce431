/- utf8.AppendRune onto nil, by the shelf's contract: for every rune the call answers its bytes, in new memory; nothing that was there is turned. -/
import Derived.Test.YtjgbhajaiifimaaDoorPx0
import Derived.Test.YtjgbhajaiifimaaDoorLayApp
namespace Go.Proofs.YtjgbhajaiifimaaDoor.P
open Go.RowKit Go.Shelf Go.Proofs.YtjgbhajaiifimaaDoorW.PrintWords Go.Proofs.YtjgbhajaiifimaaDoorW.PrintLast Go.Proofs.YtjgbhajaiifimaaDoorW.PrintMore
set_option linter.unusedVariables false
set_option linter.unusedSimpArgs false

def utf8_AppendRune.f (a1 : Int) : Option (List Int) := if -2147483648 ≤ a1 ∧ a1 ≤ 2147483647 then some (Go.Lib.encodeRuneZ a1) else none

theorem byteInfo : (Tryd.prog.info? 5).map (fun i => (i.zero, i.size, i.bytes)) = some (some (.int .u8 0), 1, 1) := by kernel_rfl

theorem utf8_AppendRune.calls (a1 : Int) (r : List Int) (w : World) (h : utf8_AppendRune.f a1 = some r) :
    Calls Tryd.prog 42 #[.slice none 0 0, .int .i32 a1] w fun e w' => ∃ v0_ : Value, e = .returned v0_ ∧ Kd.R (Kd.int .u8) 5 w' w.heap.size (fun _ => True) v0_ r ∧ Below w.heap.size w w' := by
  unfold utf8_AppendRune.f at h
  split at h
  case isFalse => cases h
  case isTrue hr =>
  obtain rfl := Option.some.inj h
  refine (Any.utf8_AppendRune_plain Tryd.laysApp byteInfo w.heap.size (.slice none 0 0) 0 [] a1 hr.1 hr.2 w (World.ownsRow_nil _ _ _ _) (by omega) (Nat.le_refl _)).mono ?_
  rintro e w' ⟨v', rfl, hown, o, hg⟩
  refine ⟨v', rfl, Kd.R_of_own ?_ (fun _ _ => trivial), ((Below.refl _ w).alloc (Nat.le_refl _) o).trans ⟨hg.os, hg.tape, hg.output, hg.size, fun k hk => hg.block k (by simp; omega) (by simp [Value.ownBlock])⟩⟩
  have hlen : (Go.Lib.runeCells a1).length = (Go.Lib.encodeRuneZ a1).length := by simp [Go.Lib.runeCells]
  rw [Nat.zero_add, hlen, List.nil_append] at hown
  exact hown
end Go.Proofs.YtjgbhajaiifimaaDoor.P
