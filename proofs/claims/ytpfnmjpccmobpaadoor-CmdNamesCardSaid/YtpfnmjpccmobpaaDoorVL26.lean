/- What the listed variables say of the world: the powers of ten, the errors of numbers. -/
import Derived.Test.YtpfnmjpccmobpaaDoorVCd
import Derived.Test.YtpfnmjpccmobpaaDoorTie
import Derived.Test.YtpfnmjpccmobpaaDoorVItoa
import Derived.Test.YtpfnmjpccmobpaaDoorVNum
import Derived.Test.YtpfnmjpccmobpaaDoorVFld
import Derived.PinnedBridge
import Derived.ProofKit
import Derived.Lay
import Derived.LaidOnce
import Derived.SevenTiedAt
import Derived.Lib.LaidTab
import Derived.Lib.LaidU8
import Derived.Stop.LaidErr
namespace Go.Proofs.YtpfnmjpccmobpaaDoor.V
open Go Go.Ev Go.RowKit Go.Shelf Go.Lib
/-- What every row of this chapter lists. -/
def laidT : List (String × DataW Unit) := [("math/bits.deBruijn32tab", Rows.laid_math_bits_deBruijn32tab), ("math/bits.deBruijn64tab", Rows.laid_math_bits_deBruijn64tab), ("internal/strconv.uint64pow10", Rows.laid_internal_strconv_uint64pow10), ("strconv.ErrRange", Rows.laid_strconv_ErrRange), ("strconv.ErrSyntax", Rows.laid_strconv_ErrSyntax)]
def ErrIs (w : World) (n : String) : Prop := ∃ t p, w.var? Tryd.prog n = some #[.iface t p]
def TabsOk (w : World) : Prop := Lib.TabIs Tryd.prog w "internal/strconv.uint64pow10" .u64 Lib.pow10Tab ∧ ErrIs w "strconv.ErrRange" ∧ ErrIs w "strconv.ErrSyntax"
theorem pow_eq : (Rows.laid_internal_strconv_uint64pow10 : DataW Unit) = Lib.tabData .u64 Lib.pow10Tab := by kernel_rfl
theorem star_err : "*" ++ "errors.errorString" = "*errors.errorString" := by decide
theorem row_err (u : TypeId) (h : Tryd.prog.typeName? 3 u = some "*errors.errorString") : u = 265 :=
  typeName_ptr_named (nm := "errors.errorString") (by rw [star_err]; kernel_rfl) (by kernel_rfl) (by decide) u (by rw [star_err]; exact h)
theorem cells_err : Tryd.prog.cellsOf 267 = 1 := by kernel_rfl
theorem cells_str : Tryd.prog.cellsOf 9 = 1 := by kernel_rfl
theorem tabs_of_laid {W : World} (h : laidMetH Tryd.prog laidT W) : TabsOk W := by
  rw [MakeChecks.laidMetH_plain _ _ _ (by kernel_rfl)] at h
  refine ⟨?_, ?_, ?_⟩
  · have hr := Lib.laidMet.reads h (.tail _ (.tail _ (.head _)))
    rw [pow_eq] at hr
    obtain ⟨g, t, cs, fuel, p, hg, ht, hvar, hd⟩ := hr
    obtain rfl := Option.some.inj ((show Tryd.prog.globalNamed "internal/strconv.uint64pow10" = some 1 by kernel_rfl).symm.trans hg)
    obtain rfl := Option.some.inj ((show (Tryd.prog.globals[1]?).map (·.type) = some 244 by kernel_rfl).symm.trans ht)
    unfold Lib.TabIs
    rw [hvar, ← Lib.cells_of_tab Tryd.underlying244 Tryd.underlying186 (by kernel_rfl) (by kernel_rfl) hd]
  · obtain ⟨a0, s0, hv0, -, -, -⟩ := laid_sentinel h.tail.tail.tail (show Tryd.prog.globalNamed "strconv.ErrRange" = some 4 by kernel_rfl) (show (Tryd.prog.globals[4]?).map (·.type) = some 147 by kernel_rfl) Tryd.underlying147 row_err Tryd.underlying265 Tryd.underlying267 rfl rfl Tryd.underlying9 cells_err cells_str
    exact ⟨_, _, hv0⟩
  · obtain ⟨a0, s0, hv0, -, -, -⟩ := laid_sentinel h.tail.tail.tail.tail (show Tryd.prog.globalNamed "strconv.ErrSyntax" = some 3 by kernel_rfl) (show (Tryd.prog.globals[3]?).map (·.type) = some 147 by kernel_rfl) Tryd.underlying147 row_err Tryd.underlying265 Tryd.underlying267 rfl rfl Tryd.underlying9 cells_err cells_str
    exact ⟨_, _, hv0⟩
theorem globOk {w : World} (_ : TabsOk w) : GlobOk C w := by
  intro g v hv
  have hv' : pickUp g globs = some v := hv
  cases hv'
theorem err_obj {w : World} {n : String} {g : Nat} (hg : Tryd.prog.globalNamed n = some g) (h : ErrIs w n) : ∃ o, w.heap[g]? = some o ∧ ifaceO o := by
  obtain ⟨t, p, h⟩ := h
  unfold World.var? at h
  rw [hg] at h
  simp only [Option.bind_some] at h
  split at h
  · rename_i cs e f ho
    obtain rfl := Option.some.inj h
    exact ⟨_, ho, _, e, f, .iface t p, rfl, rfl, .inr ⟨t, p, rfl⟩⟩
  · cases h
theorem tabsOk {w : World} (h : TabsOk w) : IntsOk C w := by
  obtain ⟨h, h1, h2⟩ := h
  intro p hp
  have hp : p ∈ [(1, tabO pow10A), (3, ifaceO), (4, ifaceO)] := hp
  simp only [List.mem_cons, List.not_mem_nil, or_false] at hp
  rcases hp with rfl | rfl | rfl
  · unfold Lib.TabIs World.var? at h
    rw [show Tryd.prog.globalNamed "internal/strconv.uint64pow10" = some 1 by kernel_rfl] at h
    simp only [Option.bind_some] at h
    split at h
    · rename_i cs e f ho
      have e2 : cs = pow10A := by
        unfold pow10A
        exact Option.some.inj h
      exact ⟨_, ho, e, f, by rw [e2]⟩
    · cases h
  · exact err_obj (by kernel_rfl) h2
  · exact err_obj (by kernel_rfl) h1
set_option maxRecDepth 100000 in
theorem givenC : ∀ g h args ds, C.given g = some h → h args = some ds → FnR Tryd.prog C g args ds := by
  intro g h args ds hg hd
  have hg' : pickUp g givens = some h := hg
  unfold givens at hg'
  rcases pickUp_cases hg' with ⟨rfl, rfl⟩ | hg'
  · exact itoa_ok hd
  rcases pickUp_cases hg' with ⟨rfl, rfl⟩ | hg'
  · exact fields_ok hd
  rcases pickUp_cases hg' with ⟨rfl, rfl⟩ | hg'
  · exact number_ok hd
  cases hg'
end Go.Proofs.YtpfnmjpccmobpaaDoor.V
