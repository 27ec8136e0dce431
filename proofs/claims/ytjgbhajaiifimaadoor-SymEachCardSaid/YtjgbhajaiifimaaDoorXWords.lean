/- Words that the printed functions use beside the kit's: an array that is a value, looked into at an index. -/
import Derived.WalkKit
import Derived.Test.YtjgbhajaiifimaaDoorWWords
namespace Go.Proofs.YtjgbhajaiifimaaDoor.P
open Go.RowKit Go.Proofs.YtjgbhajaiifimaaDoorW.PrintWords

theorem arr_index {P : Program} {t e : TypeId} {n : Nat} {α : Type} (ht : P.underlying t = some (.array n e)) (ha : ∀ W, (isAgg e).run P W = .ok false W) (hs : ∀ W, (Go.sizeOf e).run P W = .ok 1 W)
    (enc : α → Value) (z : α) (l : List α) (cs : Array Value) (hc : cs = (l.map enc).toArray) (hl : l.length = n) (i : Int) (h0 : 0 ≤ i) (h1 : i < n) (v : α) (hv : l.getD i.toNat z = v) :
    ∀ W, (Instr.index t (.agg cs) (.int .i64 i)).run P W = .ok (enc v) W := by
  intro W
  subst hv
  subst hc
  have hi : i.toNat < l.length := by omega
  have hg : ((l.map enc).toArray)[i.toNat]? = some (enc (l.getD i.toNat z)) := by
    simp [List.getD_eq_getElem?_getD, List.getElem?_eq_getElem hi]
  simp only [Instr.index, asIntOf, Sem.run_bind, Sem.run_pure, Result.andThen_ok, run_underlying ht]
  rw [if_pos ⟨h0, h1⟩]
  simp only [part, Sem.run_bind, Result.andThen_ok, ha, hs, Nat.mul_one, hg]
  rfl
end Go.Proofs.YtjgbhajaiifimaaDoor.P
