/- What the listed tables say of the world: the powers of ten; all functions that are given (chapter 11). -/
import Derived.Test.YtbhffcogeeeidaaDoorVCa
import Derived.Test.YtbhffcogeeeidaaDoorTie
import Derived.Test.YtbhffcogeeeidaaDoorVItoa
import Derived.Test.YtbhffcogeeeidaaDoorVSortR
import Derived.Test.YtbhffcogeeeidaaDoorVJoin
import Derived.Test.YtbhffcogeeeidaaDoorVBal
import Derived.PinnedBridge
import Derived.ProofKit
import Derived.Lay
import Derived.LaidOnce
import Derived.SevenTiedAt
import Derived.Lib.LaidTab
import Derived.Lib.LaidU8
namespace Go.Proofs.YtbhffcogeeeidaaDoor.V
open Go Go.Ev Go.RowKit Go.Shelf Go.Lib
/-- The tables that every row of this seat lists. -/
def laidT : List (String × DataW Unit) := [("math/bits.deBruijn32tab", Rows.laid_math_bits_deBruijn32tab), ("math/bits.deBruijn64tab", Rows.laid_math_bits_deBruijn64tab), ("internal/strconv.uint64pow10", Rows.laid_internal_strconv_uint64pow10)]
def TabsOk (w : World) : Prop := Lib.TabIs Tryd.prog w "internal/strconv.uint64pow10" .u64 Lib.pow10Tab
theorem pow_eq : (Rows.laid_internal_strconv_uint64pow10 : DataW Unit) = Lib.tabData .u64 Lib.pow10Tab := by kernel_rfl
theorem tabs_of_laid {W : World} (h : laidMetH Tryd.prog laidT W) : TabsOk W := by
  rw [MakeChecks.laidMetH_plain _ _ _ (by kernel_rfl)] at h
  have hr := Lib.laidMet.reads h (.tail _ (.tail _ (.head _)))
  rw [pow_eq] at hr
  obtain ⟨g, t, cs, fuel, p, hg, ht, hvar, hd⟩ := hr
  obtain rfl := Option.some.inj ((show Tryd.prog.globalNamed "internal/strconv.uint64pow10" = some 0 by kernel_rfl).symm.trans hg)
  obtain rfl := Option.some.inj ((show (Tryd.prog.globals[0]?).map (·.type) = some 115 by kernel_rfl).symm.trans ht)
  unfold TabsOk Lib.TabIs
  rw [hvar, ← Lib.cells_of_tab Tryd.underlying115 Tryd.underlying96 (by kernel_rfl) (by kernel_rfl) hd]
theorem globOk {w : World} (_ : TabsOk w) : GlobOk C w := by
  intro g v hv
  have hv' : pickUp g globs = some v := hv
  cases hv'
theorem tabsOk {w : World} (h : TabsOk w) : IntsOk C w := by
  intro p hp
  obtain rfl : p = (0, tabO pow10A) := List.mem_singleton.1 (show p ∈ [(0, tabO pow10A)] from hp)
  unfold TabsOk Lib.TabIs World.var? at h
  rw [show Tryd.prog.globalNamed "internal/strconv.uint64pow10" = some 0 by kernel_rfl] at h
  simp only [Option.bind_some] at h
  split at h
  · rename_i cs e f ho
    have e2 : cs = pow10A := by
      unfold pow10A
      exact Option.some.inj h
    exact ⟨_, ho, e, f, by rw [e2]⟩
  · cases h
set_option maxRecDepth 100000 in
theorem givenC : ∀ g h args ds, C.given g = some h → h args = some ds → FnR Tryd.prog C g args ds := by
  intro g h args ds hg hd
  have hg' : pickUp g givens = some h := hg
  unfold givens at hg'
  rcases pickUp_cases hg' with ⟨rfl, rfl⟩ | hg'
  · exact sortr_ok hd
  rcases pickUp_cases hg' with ⟨rfl, rfl⟩ | hg'
  · exact itoa_ok hd
  rcases pickUp_cases hg' with ⟨rfl, rfl⟩ | hg'
  · exact join_ok hd
  rcases pickUp_cases hg' with ⟨rfl, rfl⟩ | hg'
  · exact bal_ok hd
  cases hg'
end Go.Proofs.YtbhffcogeeeidaaDoor.V
