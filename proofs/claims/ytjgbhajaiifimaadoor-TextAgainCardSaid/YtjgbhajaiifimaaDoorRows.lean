/-
  NARROWER THAN 'FOR EVERY INPUT', by the rows' own cells (each row's printed sentence says how): SymAt: laid · SymEach: laid · SymParted: laid · SymAll: laid · SymPuts: laid · SymBack: laid · SymBytes: laid · TextHolds: laid · TextAgain: laid · TextLong: laid · TextIn: laid · TextSymbols: laid.
  DERIVED. THE GIVEN ROWS OF THIS SEAT. 12 by the template 'for every input the law returns true; each argument reads behind the call as it read before'; 0 by the template 'total and deterministic' (their statements: YtjgbhajaiifimaaDoorTotals.lean).
  GIVEN WITH THE SEED: the statements are not yours to turn. If you find one false, say at which input.
  Laid BY PROGRAM, IN A SANDBOX (cutbox-rows.mjs): the forced cells as the released guide's own fill.sh prints them over the translation 6c322784d015af12… (all of the seat's roots in one cut). By AI agents, Wed Nov 11 2026. No macro, syntax, notation, axiom, sorry.
-/
import Derived.Test.YtjgbhajaiifimaaDoorChecked
import GoSem.PinnedTables
import GoSem.Claim
import GoSem.ClaimJoined
import GoSem.ClaimMapViews
import Derived.JoinedTies
import Derived.KernelRfl
namespace Go.Proofs.YtjgbhajaiifimaaDoor
/- THE CELL 'sum', in the pinned program and in every row, IS THE sha256 OF THE DUMP (.gsa) THAT YtjgbhajaiifimaaDoorProg.lean LOADS. Nothing in Lean hashes anything: it is a label: what it is worth is what the hold of that sum in a sandbox is worth. -/
noncomputable def Tryd.pinned : Pinned := { name := "ytjgbhajaiifimaadoor", sum := "6c322784d015af12e4e400a4142547138caf0d3e4c70c3e06e90d4f64dba893c", checked := Tryd.checked }
namespace Rows
def none {H : Type} : Left H := { results := [], args := [] }

/- WHAT THE LISTED PACKAGE-LEVEL VARIABLES READ AS WHEN THE CALL BEGINS. Each datum BY PROGRAM (the guide's laid-datum.mjs) off the statement by which the dump's own 'gosem.cut.vars' lays the variable. In a bare row this is a premise. The card (YtjgbhajaiifimaaDoorCards.lean) ties it to the program's text. -/
def laid_unicode_utf8_acceptRanges {H : Type} : DataW H := .agg [.agg [.lit (.int .u8 128), .lit (.int .u8 191)], .agg [.lit (.int .u8 160), .lit (.int .u8 191)], .agg [.lit (.int .u8 128), .lit (.int .u8 159)], .agg [.lit (.int .u8 144), .lit (.int .u8 191)], .agg [.lit (.int .u8 128), .lit (.int .u8 143)], .agg [.lit (.int .u8 0), .lit (.int .u8 0)], .agg [.lit (.int .u8 0), .lit (.int .u8 0)], .agg [.lit (.int .u8 0), .lit (.int .u8 0)], .agg [.lit (.int .u8 0), .lit (.int .u8 0)], .agg [.lit (.int .u8 0), .lit (.int .u8 0)], .agg [.lit (.int .u8 0), .lit (.int .u8 0)], .agg [.lit (.int .u8 0), .lit (.int .u8 0)], .agg [.lit (.int .u8 0), .lit (.int .u8 0)], .agg [.lit (.int .u8 0), .lit (.int .u8 0)], .agg [.lit (.int .u8 0), .lit (.int .u8 0)], .agg [.lit (.int .u8 0), .lit (.int .u8 0)]]
/-- One of Go's own tables, pinned by name: the form's constant. -/
def laid_unicode_utf8_first : DataW Unit := Go.Pinned.utf8First

/-- 'clewlaw01.SymAt': WHATEVER THE INPUT: true; the input reads as it did. -/
def symAtSpec : ChangeSpec := { name := "symAt", fn := fun _ => fun
  | [d1, d2] => { results := [.lit (.bool true)], args := [d1, d2] }
  | _ => none }
def symAtRow : OpenClaim := { program := "ytjgbhajaiifimaadoor", sum := "6c322784d015af12e4e400a4142547138caf0d3e4c70c3e06e90d4f64dba893c", func := "clew/clewlaw01.SymAt", spec := "symAt", unfollowed := true, recurses := true, named := ["unicode/utf8.first", "unicode/utf8.acceptRanges"], apart := false, laid := [("unicode/utf8.acceptRanges", laid_unicode_utf8_acceptRanges), ("unicode/utf8.first", laid_unicode_utf8_first)] }
def SymAtSaid : Prop := symAtRow.holds Tryd.pinned (OpenSpec.ofChange symAtSpec)

/-- ITS FALSE NEIGHBOUR: 'it returns false'. Refute it at one input. -/
def symAtWrong : ChangeSpec := { name := "symAt", fn := fun _ => fun
  | [d1, d2] => { results := [.lit (.bool false)], args := [d1, d2] }
  | _ => none }
def SymAtWrongFalsely : Prop := symAtRow.holds Tryd.pinned (OpenSpec.ofChange symAtWrong)

/-- 'clewlaw01.SymEach': WHATEVER THE INPUT: true; the input reads as it did. -/
def symEachSpec : ChangeSpec := { name := "symEach", fn := fun _ => fun
  | [d1, d2] => { results := [.lit (.bool true)], args := [d1, d2] }
  | _ => none }
def symEachRow : OpenClaim := { program := "ytjgbhajaiifimaadoor", sum := "6c322784d015af12e4e400a4142547138caf0d3e4c70c3e06e90d4f64dba893c", func := "clew/clewlaw01.SymEach", spec := "symEach", unfollowed := true, recurses := true, named := ["unicode/utf8.first", "unicode/utf8.acceptRanges"], apart := false, laid := [("unicode/utf8.acceptRanges", laid_unicode_utf8_acceptRanges), ("unicode/utf8.first", laid_unicode_utf8_first)] }
def SymEachSaid : Prop := symEachRow.holds Tryd.pinned (OpenSpec.ofChange symEachSpec)

/-- ITS FALSE NEIGHBOUR: 'it returns false'. Refute it at one input. -/
def symEachWrong : ChangeSpec := { name := "symEach", fn := fun _ => fun
  | [d1, d2] => { results := [.lit (.bool false)], args := [d1, d2] }
  | _ => none }
def SymEachWrongFalsely : Prop := symEachRow.holds Tryd.pinned (OpenSpec.ofChange symEachWrong)

/-- 'clewlaw01.SymParted': WHATEVER THE INPUT: true; the input reads as it did. -/
def symPartedSpec : ChangeSpec := { name := "symParted", fn := fun _ => fun
  | [d1, d2] => { results := [.lit (.bool true)], args := [d1, d2] }
  | _ => none }
def symPartedRow : OpenClaim := { program := "ytjgbhajaiifimaadoor", sum := "6c322784d015af12e4e400a4142547138caf0d3e4c70c3e06e90d4f64dba893c", func := "clew/clewlaw01.SymParted", spec := "symParted", unfollowed := true, recurses := true, named := ["unicode/utf8.first", "unicode/utf8.acceptRanges"], apart := false, laid := [("unicode/utf8.acceptRanges", laid_unicode_utf8_acceptRanges), ("unicode/utf8.first", laid_unicode_utf8_first)] }
def SymPartedSaid : Prop := symPartedRow.holds Tryd.pinned (OpenSpec.ofChange symPartedSpec)

/-- ITS FALSE NEIGHBOUR: 'it returns false'. Refute it at one input. -/
def symPartedWrong : ChangeSpec := { name := "symParted", fn := fun _ => fun
  | [d1, d2] => { results := [.lit (.bool false)], args := [d1, d2] }
  | _ => none }
def SymPartedWrongFalsely : Prop := symPartedRow.holds Tryd.pinned (OpenSpec.ofChange symPartedWrong)

/-- 'clewlaw01.SymAll': WHATEVER THE INPUT: true; the input reads as it did. -/
def symAllSpec : ChangeSpec := { name := "symAll", fn := fun _ => fun
  | [d] => { results := [.lit (.bool true)], args := [d] }
  | _ => none }
def symAllRow : OpenClaim := { program := "ytjgbhajaiifimaadoor", sum := "6c322784d015af12e4e400a4142547138caf0d3e4c70c3e06e90d4f64dba893c", func := "clew/clewlaw01.SymAll", spec := "symAll", unfollowed := true, recurses := true, named := ["unicode/utf8.first", "unicode/utf8.acceptRanges"], apart := false, laid := [("unicode/utf8.acceptRanges", laid_unicode_utf8_acceptRanges), ("unicode/utf8.first", laid_unicode_utf8_first)] }
def SymAllSaid : Prop := symAllRow.holds Tryd.pinned (OpenSpec.ofChange symAllSpec)

/-- ITS FALSE NEIGHBOUR: 'it returns false'. Refute it at one input. -/
def symAllWrong : ChangeSpec := { name := "symAll", fn := fun _ => fun
  | [d] => { results := [.lit (.bool false)], args := [d] }
  | _ => none }
def SymAllWrongFalsely : Prop := symAllRow.holds Tryd.pinned (OpenSpec.ofChange symAllWrong)

/-- 'clewlaw01.SymPuts': WHATEVER THE INPUT: true; the input reads as it did. -/
def symPutsSpec : ChangeSpec := { name := "symPuts", fn := fun _ => fun
  | [d] => { results := [.lit (.bool true)], args := [d] }
  | _ => none }
def symPutsRow : OpenClaim := { program := "ytjgbhajaiifimaadoor", sum := "6c322784d015af12e4e400a4142547138caf0d3e4c70c3e06e90d4f64dba893c", func := "clew/clewlaw01.SymPuts", spec := "symPuts", unfollowed := true, recurses := true, named := ["unicode/utf8.first", "unicode/utf8.acceptRanges"], apart := false, laid := [("unicode/utf8.acceptRanges", laid_unicode_utf8_acceptRanges), ("unicode/utf8.first", laid_unicode_utf8_first)] }
def SymPutsSaid : Prop := symPutsRow.holds Tryd.pinned (OpenSpec.ofChange symPutsSpec)

/-- ITS FALSE NEIGHBOUR: 'it returns false'. Refute it at one input. -/
def symPutsWrong : ChangeSpec := { name := "symPuts", fn := fun _ => fun
  | [d] => { results := [.lit (.bool false)], args := [d] }
  | _ => none }
def SymPutsWrongFalsely : Prop := symPutsRow.holds Tryd.pinned (OpenSpec.ofChange symPutsWrong)

/-- 'clewlaw01.SymBack': WHATEVER THE INPUT: true; the input reads as it did. -/
def symBackSpec : ChangeSpec := { name := "symBack", fn := fun _ => fun
  | [d] => { results := [.lit (.bool true)], args := [d] }
  | _ => none }
def symBackRow : OpenClaim := { program := "ytjgbhajaiifimaadoor", sum := "6c322784d015af12e4e400a4142547138caf0d3e4c70c3e06e90d4f64dba893c", func := "clew/clewlaw01.SymBack", spec := "symBack", unfollowed := true, recurses := true, named := ["unicode/utf8.first", "unicode/utf8.acceptRanges"], apart := false, laid := [("unicode/utf8.acceptRanges", laid_unicode_utf8_acceptRanges), ("unicode/utf8.first", laid_unicode_utf8_first)] }
def SymBackSaid : Prop := symBackRow.holds Tryd.pinned (OpenSpec.ofChange symBackSpec)

/-- ITS FALSE NEIGHBOUR: 'it returns false'. Refute it at one input. -/
def symBackWrong : ChangeSpec := { name := "symBack", fn := fun _ => fun
  | [d] => { results := [.lit (.bool false)], args := [d] }
  | _ => none }
def SymBackWrongFalsely : Prop := symBackRow.holds Tryd.pinned (OpenSpec.ofChange symBackWrong)

/-- 'clewlaw01.SymBytes': WHATEVER THE INPUT: true; the input reads as it did. -/
def symBytesSpec : ChangeSpec := { name := "symBytes", fn := fun _ => fun
  | [d] => { results := [.lit (.bool true)], args := [d] }
  | _ => none }
def symBytesRow : OpenClaim := { program := "ytjgbhajaiifimaadoor", sum := "6c322784d015af12e4e400a4142547138caf0d3e4c70c3e06e90d4f64dba893c", func := "clew/clewlaw01.SymBytes", spec := "symBytes", unfollowed := true, recurses := true, named := ["unicode/utf8.first", "unicode/utf8.acceptRanges"], apart := false, laid := [("unicode/utf8.acceptRanges", laid_unicode_utf8_acceptRanges), ("unicode/utf8.first", laid_unicode_utf8_first)] }
def SymBytesSaid : Prop := symBytesRow.holds Tryd.pinned (OpenSpec.ofChange symBytesSpec)

/-- ITS FALSE NEIGHBOUR: 'it returns false'. Refute it at one input. -/
def symBytesWrong : ChangeSpec := { name := "symBytes", fn := fun _ => fun
  | [d] => { results := [.lit (.bool false)], args := [d] }
  | _ => none }
def SymBytesWrongFalsely : Prop := symBytesRow.holds Tryd.pinned (OpenSpec.ofChange symBytesWrong)

/-- 'clewlaw13.TextHolds': WHATEVER THE INPUT: true; the input reads as it did. -/
def textHoldsSpec : ChangeSpec := { name := "textHolds", fn := fun _ => fun
  | [d1, d2, d3] => { results := [.lit (.bool true)], args := [d1, d2, d3] }
  | _ => none }
def textHoldsRow : OpenClaim := { program := "ytjgbhajaiifimaadoor", sum := "6c322784d015af12e4e400a4142547138caf0d3e4c70c3e06e90d4f64dba893c", func := "clew/clewlaw13.TextHolds", spec := "textHolds", unfollowed := true, recurses := true, named := ["unicode/utf8.first", "unicode/utf8.acceptRanges"], apart := false, laid := [("unicode/utf8.acceptRanges", laid_unicode_utf8_acceptRanges), ("unicode/utf8.first", laid_unicode_utf8_first)] }
def TextHoldsSaid : Prop := textHoldsRow.holds Tryd.pinned (OpenSpec.ofChange textHoldsSpec)

/-- ITS FALSE NEIGHBOUR: 'it returns false'. Refute it at one input. -/
def textHoldsWrong : ChangeSpec := { name := "textHolds", fn := fun _ => fun
  | [d1, d2, d3] => { results := [.lit (.bool false)], args := [d1, d2, d3] }
  | _ => none }
def TextHoldsWrongFalsely : Prop := textHoldsRow.holds Tryd.pinned (OpenSpec.ofChange textHoldsWrong)

/-- 'clewlaw13.TextAgain': WHATEVER THE INPUT: true; the input reads as it did. -/
def textAgainSpec : ChangeSpec := { name := "textAgain", fn := fun _ => fun
  | [d1, d2] => { results := [.lit (.bool true)], args := [d1, d2] }
  | _ => none }
def textAgainRow : OpenClaim := { program := "ytjgbhajaiifimaadoor", sum := "6c322784d015af12e4e400a4142547138caf0d3e4c70c3e06e90d4f64dba893c", func := "clew/clewlaw13.TextAgain", spec := "textAgain", unfollowed := true, recurses := true, named := ["unicode/utf8.first", "unicode/utf8.acceptRanges"], apart := false, laid := [("unicode/utf8.acceptRanges", laid_unicode_utf8_acceptRanges), ("unicode/utf8.first", laid_unicode_utf8_first)] }
def TextAgainSaid : Prop := textAgainRow.holds Tryd.pinned (OpenSpec.ofChange textAgainSpec)

/-- ITS FALSE NEIGHBOUR: 'it returns false'. Refute it at one input. -/
def textAgainWrong : ChangeSpec := { name := "textAgain", fn := fun _ => fun
  | [d1, d2] => { results := [.lit (.bool false)], args := [d1, d2] }
  | _ => none }
def TextAgainWrongFalsely : Prop := textAgainRow.holds Tryd.pinned (OpenSpec.ofChange textAgainWrong)

/-- 'clewlaw13.TextLong': WHATEVER THE INPUT: true; the input reads as it did. -/
def textLongSpec : ChangeSpec := { name := "textLong", fn := fun _ => fun
  | [d1, d2] => { results := [.lit (.bool true)], args := [d1, d2] }
  | _ => none }
def textLongRow : OpenClaim := { program := "ytjgbhajaiifimaadoor", sum := "6c322784d015af12e4e400a4142547138caf0d3e4c70c3e06e90d4f64dba893c", func := "clew/clewlaw13.TextLong", spec := "textLong", unfollowed := true, recurses := true, named := ["unicode/utf8.first", "unicode/utf8.acceptRanges"], apart := false, laid := [("unicode/utf8.acceptRanges", laid_unicode_utf8_acceptRanges), ("unicode/utf8.first", laid_unicode_utf8_first)] }
def TextLongSaid : Prop := textLongRow.holds Tryd.pinned (OpenSpec.ofChange textLongSpec)

/-- ITS FALSE NEIGHBOUR: 'it returns false'. Refute it at one input. -/
def textLongWrong : ChangeSpec := { name := "textLong", fn := fun _ => fun
  | [d1, d2] => { results := [.lit (.bool false)], args := [d1, d2] }
  | _ => none }
def TextLongWrongFalsely : Prop := textLongRow.holds Tryd.pinned (OpenSpec.ofChange textLongWrong)

/-- 'clewlaw13.TextIn': WHATEVER THE INPUT: true; the input reads as it did. -/
def textInSpec : ChangeSpec := { name := "textIn", fn := fun _ => fun
  | [d1, d2, d3] => { results := [.lit (.bool true)], args := [d1, d2, d3] }
  | _ => none }
def textInRow : OpenClaim := { program := "ytjgbhajaiifimaadoor", sum := "6c322784d015af12e4e400a4142547138caf0d3e4c70c3e06e90d4f64dba893c", func := "clew/clewlaw13.TextIn", spec := "textIn", unfollowed := true, recurses := true, named := ["unicode/utf8.first", "unicode/utf8.acceptRanges"], apart := false, laid := [("unicode/utf8.acceptRanges", laid_unicode_utf8_acceptRanges), ("unicode/utf8.first", laid_unicode_utf8_first)] }
def TextInSaid : Prop := textInRow.holds Tryd.pinned (OpenSpec.ofChange textInSpec)

/-- ITS FALSE NEIGHBOUR: 'it returns false'. Refute it at one input. -/
def textInWrong : ChangeSpec := { name := "textIn", fn := fun _ => fun
  | [d1, d2, d3] => { results := [.lit (.bool false)], args := [d1, d2, d3] }
  | _ => none }
def TextInWrongFalsely : Prop := textInRow.holds Tryd.pinned (OpenSpec.ofChange textInWrong)

/-- 'clewlaw13.TextSymbols': WHATEVER THE INPUT: true; the input reads as it did. -/
def textSymbolsSpec : ChangeSpec := { name := "textSymbols", fn := fun _ => fun
  | [d1, d2, d3] => { results := [.lit (.bool true)], args := [d1, d2, d3] }
  | _ => none }
def textSymbolsRow : OpenClaim := { program := "ytjgbhajaiifimaadoor", sum := "6c322784d015af12e4e400a4142547138caf0d3e4c70c3e06e90d4f64dba893c", func := "clew/clewlaw13.TextSymbols", spec := "textSymbols", unfollowed := true, recurses := true, named := ["unicode/utf8.first", "unicode/utf8.acceptRanges"], apart := false, laid := [("unicode/utf8.acceptRanges", laid_unicode_utf8_acceptRanges), ("unicode/utf8.first", laid_unicode_utf8_first)] }
def TextSymbolsSaid : Prop := textSymbolsRow.holds Tryd.pinned (OpenSpec.ofChange textSymbolsSpec)

/-- ITS FALSE NEIGHBOUR: 'it returns false'. Refute it at one input. -/
def textSymbolsWrong : ChangeSpec := { name := "textSymbols", fn := fun _ => fun
  | [d1, d2, d3] => { results := [.lit (.bool false)], args := [d1, d2, d3] }
  | _ => none }
def TextSymbolsWrongFalsely : Prop := textSymbolsRow.holds Tryd.pinned (OpenSpec.ofChange textSymbolsWrong)

/- THE SECOND FORM. 'bulk': how many values and letters a reading holds, each counted each time it is reached (what is shared counts as often as it is met; a slice's spare places count too). A statement '..UptoSaid' is the law's where the arguments, and the package variables that the reading takes, are together of bulk at most 1048576: NARROWER than '..Said'. Prove '..Said' where nothing that the law and all that it calls make is longer than what came in: it says more and counts as full. Else prove '..UptoSaid'. A law counts once. -/
mutual
def uptoBulk {H : Type} : DataW H → Nat
  | .lit (.string bytes) => bytes.length + 1
  | .lit _ => 1
  | .nil => 1
  | .ptr d => uptoBulk d + 1
  | .slice elems spare => uptoBulkAll elems + uptoBulkAll spare + 1
  | .agg parts => uptoBulkAll parts + 1
  | .iface _ d => uptoBulk d + 1
  | .map entries => uptoBulkEntries entries + 1
  | .held _ => 1
def uptoBulkAll {H : Type} : List (DataW H) → Nat
  | [] => 0
  | d :: r => uptoBulk d + uptoBulkAll r
def uptoBulkEntries {H : Type} : List (Lit × DataW H) → Nat
  | [] => 0
  | x :: r => uptoBulkEntry x + uptoBulkEntries r
def uptoBulkEntry {H : Type} : Lit × DataW H → Nat
  | (.string bytes, d) => bytes.length + uptoBulk d + 1
  | (_, d) => uptoBulk d + 1
 end
def uptoSmall : (H : Type) → List (DataW H) → Bool := fun _ ds => decide (uptoBulkAll ds ≤ 1048576)
def OpenSpec.upto (s : _root_.Go.ChangeSpec) : _root_.Go.OpenSpec := { _root_.Go.OpenSpec.ofChange s with cond := some uptoSmall }

/-- 'clewlaw01.SymAt', WHERE WHAT IT READS IS OF BULK AT MOST 1048576: true; the input reads as it did. -/
def symAtUptoRow : OpenClaim := { program := "ytjgbhajaiifimaadoor", sum := "6c322784d015af12e4e400a4142547138caf0d3e4c70c3e06e90d4f64dba893c", func := "clew/clewlaw01.SymAt", spec := "symAt", unfollowed := true, recurses := true, named := ["unicode/utf8.first", "unicode/utf8.acceptRanges"], apart := false, laid := [("unicode/utf8.acceptRanges", laid_unicode_utf8_acceptRanges), ("unicode/utf8.first", laid_unicode_utf8_first)], narrowed := true }
def SymAtUptoSaid : Prop := symAtUptoRow.holds Tryd.pinned (OpenSpec.upto symAtSpec)

/-- 'clewlaw01.SymEach', WHERE WHAT IT READS IS OF BULK AT MOST 1048576: true; the input reads as it did. -/
def symEachUptoRow : OpenClaim := { program := "ytjgbhajaiifimaadoor", sum := "6c322784d015af12e4e400a4142547138caf0d3e4c70c3e06e90d4f64dba893c", func := "clew/clewlaw01.SymEach", spec := "symEach", unfollowed := true, recurses := true, named := ["unicode/utf8.first", "unicode/utf8.acceptRanges"], apart := false, laid := [("unicode/utf8.acceptRanges", laid_unicode_utf8_acceptRanges), ("unicode/utf8.first", laid_unicode_utf8_first)], narrowed := true }
def SymEachUptoSaid : Prop := symEachUptoRow.holds Tryd.pinned (OpenSpec.upto symEachSpec)

/-- 'clewlaw01.SymParted', WHERE WHAT IT READS IS OF BULK AT MOST 1048576: true; the input reads as it did. -/
def symPartedUptoRow : OpenClaim := { program := "ytjgbhajaiifimaadoor", sum := "6c322784d015af12e4e400a4142547138caf0d3e4c70c3e06e90d4f64dba893c", func := "clew/clewlaw01.SymParted", spec := "symParted", unfollowed := true, recurses := true, named := ["unicode/utf8.first", "unicode/utf8.acceptRanges"], apart := false, laid := [("unicode/utf8.acceptRanges", laid_unicode_utf8_acceptRanges), ("unicode/utf8.first", laid_unicode_utf8_first)], narrowed := true }
def SymPartedUptoSaid : Prop := symPartedUptoRow.holds Tryd.pinned (OpenSpec.upto symPartedSpec)

/-- 'clewlaw01.SymAll', WHERE WHAT IT READS IS OF BULK AT MOST 1048576: true; the input reads as it did. -/
def symAllUptoRow : OpenClaim := { program := "ytjgbhajaiifimaadoor", sum := "6c322784d015af12e4e400a4142547138caf0d3e4c70c3e06e90d4f64dba893c", func := "clew/clewlaw01.SymAll", spec := "symAll", unfollowed := true, recurses := true, named := ["unicode/utf8.first", "unicode/utf8.acceptRanges"], apart := false, laid := [("unicode/utf8.acceptRanges", laid_unicode_utf8_acceptRanges), ("unicode/utf8.first", laid_unicode_utf8_first)], narrowed := true }
def SymAllUptoSaid : Prop := symAllUptoRow.holds Tryd.pinned (OpenSpec.upto symAllSpec)

/-- 'clewlaw01.SymPuts', WHERE WHAT IT READS IS OF BULK AT MOST 1048576: true; the input reads as it did. -/
def symPutsUptoRow : OpenClaim := { program := "ytjgbhajaiifimaadoor", sum := "6c322784d015af12e4e400a4142547138caf0d3e4c70c3e06e90d4f64dba893c", func := "clew/clewlaw01.SymPuts", spec := "symPuts", unfollowed := true, recurses := true, named := ["unicode/utf8.first", "unicode/utf8.acceptRanges"], apart := false, laid := [("unicode/utf8.acceptRanges", laid_unicode_utf8_acceptRanges), ("unicode/utf8.first", laid_unicode_utf8_first)], narrowed := true }
def SymPutsUptoSaid : Prop := symPutsUptoRow.holds Tryd.pinned (OpenSpec.upto symPutsSpec)

/-- 'clewlaw01.SymBack', WHERE WHAT IT READS IS OF BULK AT MOST 1048576: true; the input reads as it did. -/
def symBackUptoRow : OpenClaim := { program := "ytjgbhajaiifimaadoor", sum := "6c322784d015af12e4e400a4142547138caf0d3e4c70c3e06e90d4f64dba893c", func := "clew/clewlaw01.SymBack", spec := "symBack", unfollowed := true, recurses := true, named := ["unicode/utf8.first", "unicode/utf8.acceptRanges"], apart := false, laid := [("unicode/utf8.acceptRanges", laid_unicode_utf8_acceptRanges), ("unicode/utf8.first", laid_unicode_utf8_first)], narrowed := true }
def SymBackUptoSaid : Prop := symBackUptoRow.holds Tryd.pinned (OpenSpec.upto symBackSpec)

/-- 'clewlaw01.SymBytes', WHERE WHAT IT READS IS OF BULK AT MOST 1048576: true; the input reads as it did. -/
def symBytesUptoRow : OpenClaim := { program := "ytjgbhajaiifimaadoor", sum := "6c322784d015af12e4e400a4142547138caf0d3e4c70c3e06e90d4f64dba893c", func := "clew/clewlaw01.SymBytes", spec := "symBytes", unfollowed := true, recurses := true, named := ["unicode/utf8.first", "unicode/utf8.acceptRanges"], apart := false, laid := [("unicode/utf8.acceptRanges", laid_unicode_utf8_acceptRanges), ("unicode/utf8.first", laid_unicode_utf8_first)], narrowed := true }
def SymBytesUptoSaid : Prop := symBytesUptoRow.holds Tryd.pinned (OpenSpec.upto symBytesSpec)

/-- 'clewlaw13.TextHolds', WHERE WHAT IT READS IS OF BULK AT MOST 1048576: true; the input reads as it did. -/
def textHoldsUptoRow : OpenClaim := { program := "ytjgbhajaiifimaadoor", sum := "6c322784d015af12e4e400a4142547138caf0d3e4c70c3e06e90d4f64dba893c", func := "clew/clewlaw13.TextHolds", spec := "textHolds", unfollowed := true, recurses := true, named := ["unicode/utf8.first", "unicode/utf8.acceptRanges"], apart := false, laid := [("unicode/utf8.acceptRanges", laid_unicode_utf8_acceptRanges), ("unicode/utf8.first", laid_unicode_utf8_first)], narrowed := true }
def TextHoldsUptoSaid : Prop := textHoldsUptoRow.holds Tryd.pinned (OpenSpec.upto textHoldsSpec)

/-- 'clewlaw13.TextAgain', WHERE WHAT IT READS IS OF BULK AT MOST 1048576: true; the input reads as it did. -/
def textAgainUptoRow : OpenClaim := { program := "ytjgbhajaiifimaadoor", sum := "6c322784d015af12e4e400a4142547138caf0d3e4c70c3e06e90d4f64dba893c", func := "clew/clewlaw13.TextAgain", spec := "textAgain", unfollowed := true, recurses := true, named := ["unicode/utf8.first", "unicode/utf8.acceptRanges"], apart := false, laid := [("unicode/utf8.acceptRanges", laid_unicode_utf8_acceptRanges), ("unicode/utf8.first", laid_unicode_utf8_first)], narrowed := true }
def TextAgainUptoSaid : Prop := textAgainUptoRow.holds Tryd.pinned (OpenSpec.upto textAgainSpec)

/-- 'clewlaw13.TextLong', WHERE WHAT IT READS IS OF BULK AT MOST 1048576: true; the input reads as it did. -/
def textLongUptoRow : OpenClaim := { program := "ytjgbhajaiifimaadoor", sum := "6c322784d015af12e4e400a4142547138caf0d3e4c70c3e06e90d4f64dba893c", func := "clew/clewlaw13.TextLong", spec := "textLong", unfollowed := true, recurses := true, named := ["unicode/utf8.first", "unicode/utf8.acceptRanges"], apart := false, laid := [("unicode/utf8.acceptRanges", laid_unicode_utf8_acceptRanges), ("unicode/utf8.first", laid_unicode_utf8_first)], narrowed := true }
def TextLongUptoSaid : Prop := textLongUptoRow.holds Tryd.pinned (OpenSpec.upto textLongSpec)

/-- 'clewlaw13.TextIn', WHERE WHAT IT READS IS OF BULK AT MOST 1048576: true; the input reads as it did. -/
def textInUptoRow : OpenClaim := { program := "ytjgbhajaiifimaadoor", sum := "6c322784d015af12e4e400a4142547138caf0d3e4c70c3e06e90d4f64dba893c", func := "clew/clewlaw13.TextIn", spec := "textIn", unfollowed := true, recurses := true, named := ["unicode/utf8.first", "unicode/utf8.acceptRanges"], apart := false, laid := [("unicode/utf8.acceptRanges", laid_unicode_utf8_acceptRanges), ("unicode/utf8.first", laid_unicode_utf8_first)], narrowed := true }
def TextInUptoSaid : Prop := textInUptoRow.holds Tryd.pinned (OpenSpec.upto textInSpec)

/-- 'clewlaw13.TextSymbols', WHERE WHAT IT READS IS OF BULK AT MOST 1048576: true; the input reads as it did. -/
def textSymbolsUptoRow : OpenClaim := { program := "ytjgbhajaiifimaadoor", sum := "6c322784d015af12e4e400a4142547138caf0d3e4c70c3e06e90d4f64dba893c", func := "clew/clewlaw13.TextSymbols", spec := "textSymbols", unfollowed := true, recurses := true, named := ["unicode/utf8.first", "unicode/utf8.acceptRanges"], apart := false, laid := [("unicode/utf8.acceptRanges", laid_unicode_utf8_acceptRanges), ("unicode/utf8.first", laid_unicode_utf8_first)], narrowed := true }
def TextSymbolsUptoSaid : Prop := textSymbolsUptoRow.holds Tryd.pinned (OpenSpec.upto textSymbolsSpec)

end Rows
end Go.Proofs.YtjgbhajaiifimaaDoor
