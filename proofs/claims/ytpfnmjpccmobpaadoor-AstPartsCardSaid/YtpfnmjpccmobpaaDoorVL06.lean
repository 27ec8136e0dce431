/- What the listed tables say of the world: the kinds' rules. -/
import Derived.Test.YtpfnmjpccmobpaaDoorVCc
import Derived.Test.YtpfnmjpccmobpaaDoorTie
import Derived.Test.YtpfnmjpccmobpaaDoorVSortR
import Derived.PinnedBridge
import Derived.ProofKit
import Derived.Lay
import Derived.LaidOnce
import Derived.SevenTiedAt
import Derived.Lib.LaidTab
import Derived.Lib.LaidU8
namespace Go.Proofs.YtpfnmjpccmobpaaDoor.V
open Go Go.Ev Go.RowKit Go.Shelf Go.Lib
set_option maxRecDepth 100000
/-- The tables that every row of this chapter lists. -/
def laidT : List (String × DataW Unit) := [("clew/ast.rules", Rows.laid_clew_ast_rules)]
def ruleZ : List (List Int) := [[0, 0, 0, 0], [0, 0, 0, 0], [0, 0, 0, 0], [0, 0, 7, 0], [0, 0, 99, 1], [2, 4096, 0, 0], [2, 4097, 0, 0], [1, 1, 99, 0], [1, 1, 0, 1], [1, 1, 0, 0], [1, 1, 4, 0]]
def TabsOk (w : World) : Prop := ∀ i j : Nat, i < 11 → j < 4 → w.cell? ⟨0, 4 * i + j, none⟩ = some (.int .i64 ((ruleZ.getD i []).getD j 0))
theorem rules_eq : (Rows.laid_clew_ast_rules : DataW Unit) = .agg (ruleZ.map fun zs => .agg (zs.map fun z => .lit (.int .i64 z))) := by kernel_rfl
theorem tabs_of_laid {W : World} (h : laidMetH Tryd.prog laidT W) : TabsOk W := by
  rw [MakeChecks.laidMetH_plain _ _ _ (by kernel_rfl)] at h
  have hr := Lib.laidMet.reads h (.head _)
  rw [rules_eq] at hr
  obtain ⟨g, t, cs, fuel, p, hg, ht, hvar, hd⟩ := hr
  obtain rfl := Option.some.inj ((show Tryd.prog.globalNamed "clew/ast.rules" = some 0 by kernel_rfl).symm.trans hg)
  obtain rfl := Option.some.inj ((show (Tryd.prog.globals[0]?).map (·.type) = some 203 by kernel_rfl).symm.trans ht)
  have c4 : Tryd.prog.cellsOf 202 = 4 := by kernel_rfl
  have c1 : Tryd.prog.cellsOf 3 = 1 := by kernel_rfl
  intro i j hi hj
  obtain ⟨fuel', d, q, hdi, he⟩ := Lib.array_elem Tryd.underlying203 hd i hi
  have hil : i < ruleZ.length := hi
  rw [List.getElem?_map, List.getElem?_eq_getElem hil, Option.map_some, Option.some.injEq] at hdi
  subst hdi
  rw [c4] at he
  have hcs := Lib.ints_of_struct Tryd.underlying202 (fun j f hj => by
    match j, hj with
    | 0, hj => simp at hj; subst hj; exact ⟨Tryd.underlying3, rfl, c1⟩
    | 1, hj => simp at hj; subst hj; exact ⟨Tryd.underlying3, rfl, c1⟩
    | 2, hj => simp at hj; subst hj; exact ⟨Tryd.underlying3, rfl, c1⟩
    | 3, hj => simp at hj; subst hj; exact ⟨Tryd.underlying3, rfl, c1⟩
    | j + 4, hj => simp at hj) (by rw [c4]; rfl) he
  have ej := congrArg (·[j]?) hcs
  simp only [List.getElem?_take, List.getElem?_drop, if_pos hj] at ej
  have hlen : (ruleZ[i]).length = 4 := (by decide : ∀ k : Fin 11, (ruleZ[k.val]'k.isLt).length = 4) ⟨i, hi⟩
  rw [World.var?_cell hg hvar (4 * i + j), ← Array.getElem?_toList]
  rw [show i * 4 + j = 4 * i + j by omega] at ej
  rw [ej, List.getElem?_map, List.getElem?_eq_getElem (by omega)]
  simp [List.getD_eq_getElem?_getD, List.getElem?_eq_getElem hil, List.getElem?_eq_getElem (show j < (ruleZ[i]).length by omega)]
theorem ty_rule : C.T 202 = some ⟨4, 32, [.int .i64, .int .i64, .int .i64, .int .i64], true, .struct [(0, 3), (1, 3), (2, 3), (3, 3)]⟩ := rfl
theorem ruleL_len : rulesL.length = 11 := rfl
theorem globOk {w : World} (h : TabsOk w) : GlobOk C w := by
  have b0 := World.block_lt_of_cell? w _ (h 0 0 (by omega) (by omega))
  intro g v hv
  have hv' : pickUp g globs = some v := hv
  unfold globs at hv'
  rcases pickUp_cases hv' with ⟨rfl, rfl⟩ | hv'
  · refine ⟨fun H => ⟨rfl, _, _, 0, ty_rule, by simp, by simp, b0, fun i j hi hj => ?_⟩, fun _ => rfl, rfl, by simp⟩
    rw [ruleL_len] at hi
    have hj4 : j < 4 := hj
    have hc := h i j hi hj4
    refine ⟨_, by rw [Nat.zero_add, Nat.mul_comm]; simp only [Nat.zero_add] at hc ⊢; exact hc, fun ct hct => ?_⟩
    have hi11 : i = 0 ∨ i = 1 ∨ i = 2 ∨ i = 3 ∨ i = 4 ∨ i = 5 ∨ i = 6 ∨ i = 7 ∨ i = 8 ∨ i = 9 ∨ i = 10 := by omega
    have hj0 : j = 0 ∨ j = 1 ∨ j = 2 ∨ j = 3 := by omega
    rcases hj0 with rfl | rfl | rfl | rfl <;> simp only [List.getElem?_cons_zero, List.getElem?_cons_succ, Option.some.injEq] at hct <;> subst hct <;> rcases hi11 with rfl | rfl | rfl | rfl | rfl | rfl | rfl | rfl | rfl | rfl | rfl <;> exact .int rfl
  · cases hv'
theorem givenC : ∀ g h args ds, C.given g = some h → h args = some ds → FnR Tryd.prog C g args ds := by
  intro g h args ds hg hd
  have hg' : pickUp g givens = some h := hg
  unfold givens at hg'
  rcases pickUp_cases hg' with ⟨rfl, rfl⟩ | hg'
  · exact sortr_ok hd
  cases hg'
end Go.Proofs.YtpfnmjpccmobpaaDoor.V
