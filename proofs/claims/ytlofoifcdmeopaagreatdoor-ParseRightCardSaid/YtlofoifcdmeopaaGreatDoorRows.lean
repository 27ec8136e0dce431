/-
  NARROWER THAN 'FOR EVERY INPUT', by the rows' own cells (each row's printed sentence says how): OutlineTrees: laid · OutlinePatterns: laid · ParseGroups: laid · ParseNumbers: laid · ParseWrapped: laid · ParseRight: laid · WellWidths: laid · WellChecks: laid · WellOrdered: laid · WellPatterns: laid · LintDoubts: laid · LintTwice: laid · ShowSettles: laid · ShowQuotes: laid · ShowReads: laid · LintLines: laid.
  DERIVED. THE GIVEN ROWS OF THIS SEAT. 16 by the template 'for every input the law returns true; each argument reads behind the call as it read before'; 0 by the template 'total and deterministic' (their statements: YtlofoifcdmeopaaGreatDoorTotals.lean).
  GIVEN WITH THE SEED: the statements are not yours to turn. If you find one false, say at which input.
  Laid BY PROGRAM, IN A SANDBOX (cutbox-rows.mjs): the forced cells as the released guide's own fill.sh prints them over the translation 47c402cac0159b38… (all of the seat's roots in one cut). By AI agents, Wed Nov 11 2026. No macro, syntax, notation, axiom, sorry.
-/
import Derived.Test.YtlofoifcdmeopaaGreatDoorChecked
import GoSem.PinnedTables
import GoSem.Claim
import GoSem.ClaimJoined
import GoSem.ClaimMapViews
import Derived.JoinedTies
import Derived.KernelRfl
namespace Go.Proofs.YtlofoifcdmeopaaGreatDoor
/- THE CELL 'sum', in the pinned program and in every row, IS THE sha256 OF THE DUMP (.gsa) THAT YtlofoifcdmeopaaGreatDoorProg.lean LOADS. Nothing in Lean hashes anything: it is a label: what it is worth is what the hold of that sum in a sandbox is worth. -/
noncomputable def Tryz.pinned : Pinned := { name := "ytlofoifcdmeopaagreatdoor", sum := "47c402cac0159b38b1a17b35777198f05c6d5e32d7f31ff6962a00af66c18e76", checked := Tryz.checked }
namespace Rows
def none {H : Type} : Left H := { results := [], args := [] }

/- WHAT THE LISTED PACKAGE-LEVEL VARIABLES READ AS WHEN THE CALL BEGINS. Each datum BY PROGRAM (the guide's laid-datum.mjs) off the statement by which the dump's own 'gosem.cut.vars' lays the variable. In a bare row this is a premise. The card (YtlofoifcdmeopaaGreatDoorCards.lean) ties it to the program's text. -/
def laid_math_bits_deBruijn32tab {H : Type} : DataW H := .agg [.lit (.int .u8 0), .lit (.int .u8 1), .lit (.int .u8 28), .lit (.int .u8 2), .lit (.int .u8 29), .lit (.int .u8 14), .lit (.int .u8 24), .lit (.int .u8 3), .lit (.int .u8 30), .lit (.int .u8 22), .lit (.int .u8 20), .lit (.int .u8 15), .lit (.int .u8 25), .lit (.int .u8 17), .lit (.int .u8 4), .lit (.int .u8 8), .lit (.int .u8 31), .lit (.int .u8 27), .lit (.int .u8 13), .lit (.int .u8 23), .lit (.int .u8 21), .lit (.int .u8 19), .lit (.int .u8 16), .lit (.int .u8 7), .lit (.int .u8 26), .lit (.int .u8 12), .lit (.int .u8 18), .lit (.int .u8 6), .lit (.int .u8 11), .lit (.int .u8 5), .lit (.int .u8 10), .lit (.int .u8 9)]
def laid_math_bits_deBruijn64tab {H : Type} : DataW H := .agg [.lit (.int .u8 0), .lit (.int .u8 1), .lit (.int .u8 56), .lit (.int .u8 2), .lit (.int .u8 57), .lit (.int .u8 49), .lit (.int .u8 28), .lit (.int .u8 3), .lit (.int .u8 61), .lit (.int .u8 58), .lit (.int .u8 42), .lit (.int .u8 50), .lit (.int .u8 38), .lit (.int .u8 29), .lit (.int .u8 17), .lit (.int .u8 4), .lit (.int .u8 62), .lit (.int .u8 47), .lit (.int .u8 59), .lit (.int .u8 36), .lit (.int .u8 45), .lit (.int .u8 43), .lit (.int .u8 51), .lit (.int .u8 22), .lit (.int .u8 53), .lit (.int .u8 39), .lit (.int .u8 33), .lit (.int .u8 30), .lit (.int .u8 24), .lit (.int .u8 18), .lit (.int .u8 12), .lit (.int .u8 5), .lit (.int .u8 63), .lit (.int .u8 55), .lit (.int .u8 48), .lit (.int .u8 27), .lit (.int .u8 60), .lit (.int .u8 41), .lit (.int .u8 37), .lit (.int .u8 16), .lit (.int .u8 46), .lit (.int .u8 35), .lit (.int .u8 44), .lit (.int .u8 21), .lit (.int .u8 52), .lit (.int .u8 32), .lit (.int .u8 23), .lit (.int .u8 11), .lit (.int .u8 54), .lit (.int .u8 26), .lit (.int .u8 40), .lit (.int .u8 15), .lit (.int .u8 34), .lit (.int .u8 20), .lit (.int .u8 31), .lit (.int .u8 10), .lit (.int .u8 25), .lit (.int .u8 14), .lit (.int .u8 19), .lit (.int .u8 9), .lit (.int .u8 13), .lit (.int .u8 8), .lit (.int .u8 7), .lit (.int .u8 6)]
def laid_internal_strconv_uint64pow10 {H : Type} : DataW H := .agg [.lit (.int .u64 1), .lit (.int .u64 10), .lit (.int .u64 100), .lit (.int .u64 1000), .lit (.int .u64 10000), .lit (.int .u64 100000), .lit (.int .u64 1000000), .lit (.int .u64 10000000), .lit (.int .u64 100000000), .lit (.int .u64 1000000000), .lit (.int .u64 10000000000), .lit (.int .u64 100000000000), .lit (.int .u64 1000000000000), .lit (.int .u64 10000000000000), .lit (.int .u64 100000000000000), .lit (.int .u64 1000000000000000), .lit (.int .u64 10000000000000000), .lit (.int .u64 100000000000000000), .lit (.int .u64 1000000000000000000), .lit (.int .u64 10000000000000000000)]
def laid_unicode_utf8_acceptRanges {H : Type} : DataW H := .agg [.agg [.lit (.int .u8 128), .lit (.int .u8 191)], .agg [.lit (.int .u8 160), .lit (.int .u8 191)], .agg [.lit (.int .u8 128), .lit (.int .u8 159)], .agg [.lit (.int .u8 144), .lit (.int .u8 191)], .agg [.lit (.int .u8 128), .lit (.int .u8 143)], .agg [.lit (.int .u8 0), .lit (.int .u8 0)], .agg [.lit (.int .u8 0), .lit (.int .u8 0)], .agg [.lit (.int .u8 0), .lit (.int .u8 0)], .agg [.lit (.int .u8 0), .lit (.int .u8 0)], .agg [.lit (.int .u8 0), .lit (.int .u8 0)], .agg [.lit (.int .u8 0), .lit (.int .u8 0)], .agg [.lit (.int .u8 0), .lit (.int .u8 0)], .agg [.lit (.int .u8 0), .lit (.int .u8 0)], .agg [.lit (.int .u8 0), .lit (.int .u8 0)], .agg [.lit (.int .u8 0), .lit (.int .u8 0)], .agg [.lit (.int .u8 0), .lit (.int .u8 0)]]
/-- One of Go's own tables, pinned by name: the form's constant. -/
def laid_unicode_utf8_first : DataW Unit := Go.Pinned.utf8First
def laid_clew_ast_rules {H : Type} : DataW H := .agg [.agg [.lit (.int .i64 0), .lit (.int .i64 0), .lit (.int .i64 0), .lit (.int .i64 0)], .agg [.lit (.int .i64 0), .lit (.int .i64 0), .lit (.int .i64 0), .lit (.int .i64 0)], .agg [.lit (.int .i64 0), .lit (.int .i64 0), .lit (.int .i64 0), .lit (.int .i64 0)], .agg [.lit (.int .i64 0), .lit (.int .i64 0), .lit (.int .i64 7), .lit (.int .i64 0)], .agg [.lit (.int .i64 0), .lit (.int .i64 0), .lit (.int .i64 99), .lit (.int .i64 1)], .agg [.lit (.int .i64 2), .lit (.int .i64 4096), .lit (.int .i64 0), .lit (.int .i64 0)], .agg [.lit (.int .i64 2), .lit (.int .i64 4097), .lit (.int .i64 0), .lit (.int .i64 0)], .agg [.lit (.int .i64 1), .lit (.int .i64 1), .lit (.int .i64 99), .lit (.int .i64 0)], .agg [.lit (.int .i64 1), .lit (.int .i64 1), .lit (.int .i64 0), .lit (.int .i64 1)], .agg [.lit (.int .i64 1), .lit (.int .i64 1), .lit (.int .i64 0), .lit (.int .i64 0)], .agg [.lit (.int .i64 1), .lit (.int .i64 1), .lit (.int .i64 4), .lit (.int .i64 0)]]
def laid_clew_show_holds {H : Type} : DataW H := .agg [.lit (.string []), .lit (.string [92, 65]), .lit (.string [92, 90]), .lit (.string [92, 122]), .lit (.string [40, 63, 109, 58, 94, 41]), .lit (.string [40, 63, 109, 58, 36, 41]), .lit (.string [92, 98]), .lit (.string [92, 66])]
def laid_clew_show_looks {H : Type} : DataW H := .agg [.lit (.string []), .lit (.string [40, 63, 61]), .lit (.string [40, 63, 33]), .lit (.string [40, 63, 60, 61]), .lit (.string [40, 63, 60, 33])]

/-- 'clewlaw35.OutlineTrees': WHATEVER THE INPUT: true; the input reads as it did. -/
def outlineTreesSpec : ChangeSpec := { name := "outlineTrees", fn := fun _ => fun
  | [d] => { results := [.lit (.bool true)], args := [d] }
  | _ => none }
def outlineTreesRow : OpenClaim := { program := "ytlofoifcdmeopaagreatdoor", sum := "47c402cac0159b38b1a17b35777198f05c6d5e32d7f31ff6962a00af66c18e76", func := "clew/clewlaw35.OutlineTrees", spec := "outlineTrees", inPlace := ["internal/bytealg.IndexByteString", "internal/bytealg.IndexString", "internal/abi.NoEscape", "internal/bytealg.MakeNoZero"], unfollowed := true, recurses := true, named := ["internal/bytealg.MaxLen", "unicode/utf8.first", "unicode/utf8.acceptRanges", "internal/strconv.uint64pow10", "math/bits.deBruijn32tab", "math/bits.deBruijn64tab"], apart := false, laid := [("math/bits.deBruijn32tab", laid_math_bits_deBruijn32tab), ("math/bits.deBruijn64tab", laid_math_bits_deBruijn64tab), ("internal/strconv.uint64pow10", laid_internal_strconv_uint64pow10), ("unicode/utf8.acceptRanges", laid_unicode_utf8_acceptRanges), ("unicode/utf8.first", laid_unicode_utf8_first)] }
def OutlineTreesSaid : Prop := outlineTreesRow.holds Tryz.pinned (OpenSpec.ofChange outlineTreesSpec)

/-- ITS FALSE NEIGHBOUR: 'it returns false'. Refute it at one input. -/
def outlineTreesWrong : ChangeSpec := { name := "outlineTrees", fn := fun _ => fun
  | [d] => { results := [.lit (.bool false)], args := [d] }
  | _ => none }
def OutlineTreesWrongFalsely : Prop := outlineTreesRow.holds Tryz.pinned (OpenSpec.ofChange outlineTreesWrong)

/-- 'clewlaw35.OutlinePatterns': WHATEVER THE INPUT: true; the input reads as it did. -/
def outlinePatternsSpec : ChangeSpec := { name := "outlinePatterns", fn := fun _ => fun
  | [d] => { results := [.lit (.bool true)], args := [d] }
  | _ => none }
def outlinePatternsRow : OpenClaim := { program := "ytlofoifcdmeopaagreatdoor", sum := "47c402cac0159b38b1a17b35777198f05c6d5e32d7f31ff6962a00af66c18e76", func := "clew/clewlaw35.OutlinePatterns", spec := "outlinePatterns", inPlace := ["internal/bytealg.IndexByteString", "internal/bytealg.IndexString", "internal/abi.NoEscape", "internal/bytealg.MakeNoZero"], unfollowed := true, recurses := true, named := ["internal/bytealg.MaxLen", "unicode/utf8.first", "unicode/utf8.acceptRanges", "internal/strconv.uint64pow10", "math/bits.deBruijn32tab", "math/bits.deBruijn64tab"], apart := false, laid := [("math/bits.deBruijn32tab", laid_math_bits_deBruijn32tab), ("math/bits.deBruijn64tab", laid_math_bits_deBruijn64tab), ("internal/strconv.uint64pow10", laid_internal_strconv_uint64pow10), ("unicode/utf8.acceptRanges", laid_unicode_utf8_acceptRanges), ("unicode/utf8.first", laid_unicode_utf8_first)] }
def OutlinePatternsSaid : Prop := outlinePatternsRow.holds Tryz.pinned (OpenSpec.ofChange outlinePatternsSpec)

/-- ITS FALSE NEIGHBOUR: 'it returns false'. Refute it at one input. -/
def outlinePatternsWrong : ChangeSpec := { name := "outlinePatterns", fn := fun _ => fun
  | [d] => { results := [.lit (.bool false)], args := [d] }
  | _ => none }
def OutlinePatternsWrongFalsely : Prop := outlinePatternsRow.holds Tryz.pinned (OpenSpec.ofChange outlinePatternsWrong)

/-- 'clewlaw08.ParseGroups': WHATEVER THE INPUT: true; the input reads as it did. -/
def parseGroupsSpec : ChangeSpec := { name := "parseGroups", fn := fun _ => fun
  | [d] => { results := [.lit (.bool true)], args := [d] }
  | _ => none }
def parseGroupsRow : OpenClaim := { program := "ytlofoifcdmeopaagreatdoor", sum := "47c402cac0159b38b1a17b35777198f05c6d5e32d7f31ff6962a00af66c18e76", func := "clew/clewlaw08.ParseGroups", spec := "parseGroups", inPlace := ["internal/bytealg.IndexByteString", "internal/bytealg.IndexString"], unfollowed := true, recurses := true, named := ["internal/bytealg.MaxLen", "unicode/utf8.first", "unicode/utf8.acceptRanges"], apart := false, laid := [("unicode/utf8.acceptRanges", laid_unicode_utf8_acceptRanges), ("unicode/utf8.first", laid_unicode_utf8_first)] }
def ParseGroupsSaid : Prop := parseGroupsRow.holds Tryz.pinned (OpenSpec.ofChange parseGroupsSpec)

/-- ITS FALSE NEIGHBOUR: 'it returns false'. Refute it at one input. -/
def parseGroupsWrong : ChangeSpec := { name := "parseGroups", fn := fun _ => fun
  | [d] => { results := [.lit (.bool false)], args := [d] }
  | _ => none }
def ParseGroupsWrongFalsely : Prop := parseGroupsRow.holds Tryz.pinned (OpenSpec.ofChange parseGroupsWrong)

/-- 'clewlaw08.ParseNumbers': WHATEVER THE INPUT: true; the input reads as it did. -/
def parseNumbersSpec : ChangeSpec := { name := "parseNumbers", fn := fun _ => fun
  | [d1, d2] => { results := [.lit (.bool true)], args := [d1, d2] }
  | _ => none }
def parseNumbersRow : OpenClaim := { program := "ytlofoifcdmeopaagreatdoor", sum := "47c402cac0159b38b1a17b35777198f05c6d5e32d7f31ff6962a00af66c18e76", func := "clew/clewlaw08.ParseNumbers", spec := "parseNumbers", inPlace := ["internal/bytealg.IndexByteString", "internal/bytealg.IndexString"], unfollowed := true, recurses := true, named := ["internal/bytealg.MaxLen", "unicode/utf8.first", "unicode/utf8.acceptRanges"], apart := false, laid := [("unicode/utf8.acceptRanges", laid_unicode_utf8_acceptRanges), ("unicode/utf8.first", laid_unicode_utf8_first)] }
def ParseNumbersSaid : Prop := parseNumbersRow.holds Tryz.pinned (OpenSpec.ofChange parseNumbersSpec)

/-- ITS FALSE NEIGHBOUR: 'it returns false'. Refute it at one input. -/
def parseNumbersWrong : ChangeSpec := { name := "parseNumbers", fn := fun _ => fun
  | [d1, d2] => { results := [.lit (.bool false)], args := [d1, d2] }
  | _ => none }
def ParseNumbersWrongFalsely : Prop := parseNumbersRow.holds Tryz.pinned (OpenSpec.ofChange parseNumbersWrong)

/-- 'clewlaw08.ParseWrapped': WHATEVER THE INPUT: true; the input reads as it did. -/
def parseWrappedSpec : ChangeSpec := { name := "parseWrapped", fn := fun _ => fun
  | [d] => { results := [.lit (.bool true)], args := [d] }
  | _ => none }
def parseWrappedRow : OpenClaim := { program := "ytlofoifcdmeopaagreatdoor", sum := "47c402cac0159b38b1a17b35777198f05c6d5e32d7f31ff6962a00af66c18e76", func := "clew/clewlaw08.ParseWrapped", spec := "parseWrapped", inPlace := ["internal/bytealg.IndexByteString", "internal/bytealg.IndexString"], unfollowed := true, recurses := true, named := ["internal/bytealg.MaxLen", "unicode/utf8.first", "unicode/utf8.acceptRanges"], apart := false, laid := [("unicode/utf8.acceptRanges", laid_unicode_utf8_acceptRanges), ("unicode/utf8.first", laid_unicode_utf8_first)] }
def ParseWrappedSaid : Prop := parseWrappedRow.holds Tryz.pinned (OpenSpec.ofChange parseWrappedSpec)

/-- ITS FALSE NEIGHBOUR: 'it returns false'. Refute it at one input. -/
def parseWrappedWrong : ChangeSpec := { name := "parseWrapped", fn := fun _ => fun
  | [d] => { results := [.lit (.bool false)], args := [d] }
  | _ => none }
def ParseWrappedWrongFalsely : Prop := parseWrappedRow.holds Tryz.pinned (OpenSpec.ofChange parseWrappedWrong)

/-- 'clewlaw08.ParseRight': WHATEVER THE INPUT: true; the input reads as it did. -/
def parseRightSpec : ChangeSpec := { name := "parseRight", fn := fun _ => fun
  | [d] => { results := [.lit (.bool true)], args := [d] }
  | _ => none }
def parseRightRow : OpenClaim := { program := "ytlofoifcdmeopaagreatdoor", sum := "47c402cac0159b38b1a17b35777198f05c6d5e32d7f31ff6962a00af66c18e76", func := "clew/clewlaw08.ParseRight", spec := "parseRight", inPlace := ["internal/bytealg.IndexByteString", "internal/bytealg.IndexString"], unfollowed := true, recurses := true, named := ["internal/bytealg.MaxLen", "unicode/utf8.first", "unicode/utf8.acceptRanges", "clew/ast.rules"], apart := false, laid := [("unicode/utf8.acceptRanges", laid_unicode_utf8_acceptRanges), ("clew/ast.rules", laid_clew_ast_rules), ("unicode/utf8.first", laid_unicode_utf8_first)] }
def ParseRightSaid : Prop := parseRightRow.holds Tryz.pinned (OpenSpec.ofChange parseRightSpec)

/-- ITS FALSE NEIGHBOUR: 'it returns false'. Refute it at one input. -/
def parseRightWrong : ChangeSpec := { name := "parseRight", fn := fun _ => fun
  | [d] => { results := [.lit (.bool false)], args := [d] }
  | _ => none }
def ParseRightWrongFalsely : Prop := parseRightRow.holds Tryz.pinned (OpenSpec.ofChange parseRightWrong)

/-- 'clewlaw09.WellWidths': WHATEVER THE INPUT: true; the input reads as it did. -/
def wellWidthsSpec : ChangeSpec := { name := "wellWidths", fn := fun _ => fun
  | [d] => { results := [.lit (.bool true)], args := [d] }
  | _ => none }
def wellWidthsRow : OpenClaim := { program := "ytlofoifcdmeopaagreatdoor", sum := "47c402cac0159b38b1a17b35777198f05c6d5e32d7f31ff6962a00af66c18e76", func := "clew/clewlaw09.WellWidths", spec := "wellWidths", inPlace := ["internal/bytealg.IndexByteString", "internal/bytealg.IndexString"], unfollowed := true, recurses := true, named := ["internal/bytealg.MaxLen", "unicode/utf8.first", "unicode/utf8.acceptRanges"], apart := false, laid := [("unicode/utf8.acceptRanges", laid_unicode_utf8_acceptRanges), ("unicode/utf8.first", laid_unicode_utf8_first)] }
def WellWidthsSaid : Prop := wellWidthsRow.holds Tryz.pinned (OpenSpec.ofChange wellWidthsSpec)

/-- ITS FALSE NEIGHBOUR: 'it returns false'. Refute it at one input. -/
def wellWidthsWrong : ChangeSpec := { name := "wellWidths", fn := fun _ => fun
  | [d] => { results := [.lit (.bool false)], args := [d] }
  | _ => none }
def WellWidthsWrongFalsely : Prop := wellWidthsRow.holds Tryz.pinned (OpenSpec.ofChange wellWidthsWrong)

/-- 'clewlaw09.WellChecks': WHATEVER THE INPUT: true; the input reads as it did. -/
def wellChecksSpec : ChangeSpec := { name := "wellChecks", fn := fun _ => fun
  | [d] => { results := [.lit (.bool true)], args := [d] }
  | _ => none }
def wellChecksRow : OpenClaim := { program := "ytlofoifcdmeopaagreatdoor", sum := "47c402cac0159b38b1a17b35777198f05c6d5e32d7f31ff6962a00af66c18e76", func := "clew/clewlaw09.WellChecks", spec := "wellChecks", inPlace := ["internal/bytealg.IndexByteString", "internal/bytealg.IndexString"], unfollowed := true, recurses := true, named := ["internal/bytealg.MaxLen", "unicode/utf8.first", "unicode/utf8.acceptRanges"], apart := false, laid := [("unicode/utf8.acceptRanges", laid_unicode_utf8_acceptRanges), ("unicode/utf8.first", laid_unicode_utf8_first)] }
def WellChecksSaid : Prop := wellChecksRow.holds Tryz.pinned (OpenSpec.ofChange wellChecksSpec)

/-- ITS FALSE NEIGHBOUR: 'it returns false'. Refute it at one input. -/
def wellChecksWrong : ChangeSpec := { name := "wellChecks", fn := fun _ => fun
  | [d] => { results := [.lit (.bool false)], args := [d] }
  | _ => none }
def WellChecksWrongFalsely : Prop := wellChecksRow.holds Tryz.pinned (OpenSpec.ofChange wellChecksWrong)

/-- 'clewlaw09.WellOrdered': WHATEVER THE INPUT: true; the input reads as it did. -/
def wellOrderedSpec : ChangeSpec := { name := "wellOrdered", fn := fun _ => fun
  | [d] => { results := [.lit (.bool true)], args := [d] }
  | _ => none }
def wellOrderedRow : OpenClaim := { program := "ytlofoifcdmeopaagreatdoor", sum := "47c402cac0159b38b1a17b35777198f05c6d5e32d7f31ff6962a00af66c18e76", func := "clew/clewlaw09.WellOrdered", spec := "wellOrdered", inPlace := ["internal/bytealg.IndexByteString", "internal/bytealg.IndexString"], unfollowed := true, recurses := true, named := ["internal/bytealg.MaxLen", "unicode/utf8.first", "unicode/utf8.acceptRanges"], apart := false, laid := [("unicode/utf8.acceptRanges", laid_unicode_utf8_acceptRanges), ("unicode/utf8.first", laid_unicode_utf8_first)] }
def WellOrderedSaid : Prop := wellOrderedRow.holds Tryz.pinned (OpenSpec.ofChange wellOrderedSpec)

/-- ITS FALSE NEIGHBOUR: 'it returns false'. Refute it at one input. -/
def wellOrderedWrong : ChangeSpec := { name := "wellOrdered", fn := fun _ => fun
  | [d] => { results := [.lit (.bool false)], args := [d] }
  | _ => none }
def WellOrderedWrongFalsely : Prop := wellOrderedRow.holds Tryz.pinned (OpenSpec.ofChange wellOrderedWrong)

/-- 'clewlaw09.WellPatterns': WHATEVER THE INPUT: true; the input reads as it did. -/
def wellPatternsSpec : ChangeSpec := { name := "wellPatterns", fn := fun _ => fun
  | [d] => { results := [.lit (.bool true)], args := [d] }
  | _ => none }
def wellPatternsRow : OpenClaim := { program := "ytlofoifcdmeopaagreatdoor", sum := "47c402cac0159b38b1a17b35777198f05c6d5e32d7f31ff6962a00af66c18e76", func := "clew/clewlaw09.WellPatterns", spec := "wellPatterns", inPlace := ["internal/bytealg.IndexByteString", "internal/bytealg.IndexString"], unfollowed := true, recurses := true, named := ["internal/bytealg.MaxLen", "unicode/utf8.first", "unicode/utf8.acceptRanges"], apart := false, laid := [("unicode/utf8.acceptRanges", laid_unicode_utf8_acceptRanges), ("unicode/utf8.first", laid_unicode_utf8_first)] }
def WellPatternsSaid : Prop := wellPatternsRow.holds Tryz.pinned (OpenSpec.ofChange wellPatternsSpec)

/-- ITS FALSE NEIGHBOUR: 'it returns false'. Refute it at one input. -/
def wellPatternsWrong : ChangeSpec := { name := "wellPatterns", fn := fun _ => fun
  | [d] => { results := [.lit (.bool false)], args := [d] }
  | _ => none }
def WellPatternsWrongFalsely : Prop := wellPatternsRow.holds Tryz.pinned (OpenSpec.ofChange wellPatternsWrong)

/-- 'clewlaw33.LintDoubts': WHATEVER THE INPUT: true; the input reads as it did. -/
def lintDoubtsSpec : ChangeSpec := { name := "lintDoubts", fn := fun _ => fun
  | [d1, d2] => { results := [.lit (.bool true)], args := [d1, d2] }
  | _ => none }
def lintDoubtsRow : OpenClaim := { program := "ytlofoifcdmeopaagreatdoor", sum := "47c402cac0159b38b1a17b35777198f05c6d5e32d7f31ff6962a00af66c18e76", func := "clew/clewlaw33.LintDoubts", spec := "lintDoubts", inPlace := ["internal/bytealg.IndexByteString", "internal/bytealg.IndexString"], unfollowed := true, recurses := true, named := ["internal/bytealg.MaxLen", "unicode/utf8.first", "unicode/utf8.acceptRanges"], apart := false, laid := [("unicode/utf8.acceptRanges", laid_unicode_utf8_acceptRanges), ("unicode/utf8.first", laid_unicode_utf8_first)] }
def LintDoubtsSaid : Prop := lintDoubtsRow.holds Tryz.pinned (OpenSpec.ofChange lintDoubtsSpec)

/-- ITS FALSE NEIGHBOUR: 'it returns false'. Refute it at one input. -/
def lintDoubtsWrong : ChangeSpec := { name := "lintDoubts", fn := fun _ => fun
  | [d1, d2] => { results := [.lit (.bool false)], args := [d1, d2] }
  | _ => none }
def LintDoubtsWrongFalsely : Prop := lintDoubtsRow.holds Tryz.pinned (OpenSpec.ofChange lintDoubtsWrong)

/-- 'clewlaw33.LintTwice': WHATEVER THE INPUT: true; the input reads as it did. -/
def lintTwiceSpec : ChangeSpec := { name := "lintTwice", fn := fun _ => fun
  | [d] => { results := [.lit (.bool true)], args := [d] }
  | _ => none }
def lintTwiceRow : OpenClaim := { program := "ytlofoifcdmeopaagreatdoor", sum := "47c402cac0159b38b1a17b35777198f05c6d5e32d7f31ff6962a00af66c18e76", func := "clew/clewlaw33.LintTwice", spec := "lintTwice", inPlace := ["internal/bytealg.IndexByteString", "internal/bytealg.IndexString"], unfollowed := true, recurses := true, named := ["internal/bytealg.MaxLen", "unicode/utf8.first", "unicode/utf8.acceptRanges"], apart := false, laid := [("unicode/utf8.acceptRanges", laid_unicode_utf8_acceptRanges), ("unicode/utf8.first", laid_unicode_utf8_first)] }
def LintTwiceSaid : Prop := lintTwiceRow.holds Tryz.pinned (OpenSpec.ofChange lintTwiceSpec)

/-- ITS FALSE NEIGHBOUR: 'it returns false'. Refute it at one input. -/
def lintTwiceWrong : ChangeSpec := { name := "lintTwice", fn := fun _ => fun
  | [d] => { results := [.lit (.bool false)], args := [d] }
  | _ => none }
def LintTwiceWrongFalsely : Prop := lintTwiceRow.holds Tryz.pinned (OpenSpec.ofChange lintTwiceWrong)

/-- 'clewlaw10.ShowSettles': WHATEVER THE INPUT: true; the input reads as it did. -/
def showSettlesSpec : ChangeSpec := { name := "showSettles", fn := fun _ => fun
  | [d1, d2] => { results := [.lit (.bool true)], args := [d1, d2] }
  | _ => none }
def showSettlesRow : OpenClaim := { program := "ytlofoifcdmeopaagreatdoor", sum := "47c402cac0159b38b1a17b35777198f05c6d5e32d7f31ff6962a00af66c18e76", func := "clew/clewlaw10.ShowSettles", spec := "showSettles", inPlace := ["internal/bytealg.IndexByteString", "internal/bytealg.IndexString", "internal/abi.NoEscape"], unfollowed := true, recurses := true, named := ["internal/bytealg.MaxLen", "unicode/utf8.first", "unicode/utf8.acceptRanges", "clew/show.holds", "clew/show.looks", "internal/strconv.uint64pow10", "math/bits.deBruijn32tab", "math/bits.deBruijn64tab"], apart := false, laid := [("math/bits.deBruijn32tab", laid_math_bits_deBruijn32tab), ("math/bits.deBruijn64tab", laid_math_bits_deBruijn64tab), ("internal/strconv.uint64pow10", laid_internal_strconv_uint64pow10), ("unicode/utf8.acceptRanges", laid_unicode_utf8_acceptRanges), ("clew/show.holds", laid_clew_show_holds), ("clew/show.looks", laid_clew_show_looks), ("unicode/utf8.first", laid_unicode_utf8_first)] }
def ShowSettlesSaid : Prop := showSettlesRow.holds Tryz.pinned (OpenSpec.ofChange showSettlesSpec)

/-- ITS FALSE NEIGHBOUR: 'it returns false'. Refute it at one input. -/
def showSettlesWrong : ChangeSpec := { name := "showSettles", fn := fun _ => fun
  | [d1, d2] => { results := [.lit (.bool false)], args := [d1, d2] }
  | _ => none }
def ShowSettlesWrongFalsely : Prop := showSettlesRow.holds Tryz.pinned (OpenSpec.ofChange showSettlesWrong)

/-- 'clewlaw10.ShowQuotes': WHATEVER THE INPUT: true; the input reads as it did. -/
def showQuotesSpec : ChangeSpec := { name := "showQuotes", fn := fun _ => fun
  | [d] => { results := [.lit (.bool true)], args := [d] }
  | _ => none }
def showQuotesRow : OpenClaim := { program := "ytlofoifcdmeopaagreatdoor", sum := "47c402cac0159b38b1a17b35777198f05c6d5e32d7f31ff6962a00af66c18e76", func := "clew/clewlaw10.ShowQuotes", spec := "showQuotes", inPlace := ["internal/bytealg.IndexByteString", "internal/bytealg.IndexString", "internal/abi.NoEscape"], unfollowed := true, recurses := true, named := ["internal/bytealg.MaxLen", "unicode/utf8.first", "unicode/utf8.acceptRanges", "clew/show.holds", "clew/show.looks", "internal/strconv.uint64pow10", "math/bits.deBruijn32tab", "math/bits.deBruijn64tab"], apart := false, laid := [("math/bits.deBruijn32tab", laid_math_bits_deBruijn32tab), ("math/bits.deBruijn64tab", laid_math_bits_deBruijn64tab), ("internal/strconv.uint64pow10", laid_internal_strconv_uint64pow10), ("unicode/utf8.acceptRanges", laid_unicode_utf8_acceptRanges), ("clew/show.holds", laid_clew_show_holds), ("clew/show.looks", laid_clew_show_looks), ("unicode/utf8.first", laid_unicode_utf8_first)] }
def ShowQuotesSaid : Prop := showQuotesRow.holds Tryz.pinned (OpenSpec.ofChange showQuotesSpec)

/-- ITS FALSE NEIGHBOUR: 'it returns false'. Refute it at one input. -/
def showQuotesWrong : ChangeSpec := { name := "showQuotes", fn := fun _ => fun
  | [d] => { results := [.lit (.bool false)], args := [d] }
  | _ => none }
def ShowQuotesWrongFalsely : Prop := showQuotesRow.holds Tryz.pinned (OpenSpec.ofChange showQuotesWrong)

/-- 'clewlaw10.ShowReads': WHATEVER THE INPUT: true; the input reads as it did. -/
def showReadsSpec : ChangeSpec := { name := "showReads", fn := fun _ => fun
  | [d] => { results := [.lit (.bool true)], args := [d] }
  | _ => none }
def showReadsRow : OpenClaim := { program := "ytlofoifcdmeopaagreatdoor", sum := "47c402cac0159b38b1a17b35777198f05c6d5e32d7f31ff6962a00af66c18e76", func := "clew/clewlaw10.ShowReads", spec := "showReads", inPlace := ["internal/bytealg.IndexByteString", "internal/bytealg.IndexString", "internal/abi.NoEscape"], unfollowed := true, recurses := true, named := ["internal/bytealg.MaxLen", "unicode/utf8.first", "unicode/utf8.acceptRanges", "clew/show.holds", "clew/show.looks", "internal/strconv.uint64pow10", "math/bits.deBruijn32tab", "math/bits.deBruijn64tab"], apart := false, laid := [("math/bits.deBruijn32tab", laid_math_bits_deBruijn32tab), ("math/bits.deBruijn64tab", laid_math_bits_deBruijn64tab), ("internal/strconv.uint64pow10", laid_internal_strconv_uint64pow10), ("unicode/utf8.acceptRanges", laid_unicode_utf8_acceptRanges), ("clew/show.holds", laid_clew_show_holds), ("clew/show.looks", laid_clew_show_looks), ("unicode/utf8.first", laid_unicode_utf8_first)] }
def ShowReadsSaid : Prop := showReadsRow.holds Tryz.pinned (OpenSpec.ofChange showReadsSpec)

/-- ITS FALSE NEIGHBOUR: 'it returns false'. Refute it at one input. -/
def showReadsWrong : ChangeSpec := { name := "showReads", fn := fun _ => fun
  | [d] => { results := [.lit (.bool false)], args := [d] }
  | _ => none }
def ShowReadsWrongFalsely : Prop := showReadsRow.holds Tryz.pinned (OpenSpec.ofChange showReadsWrong)

/-- 'clewlaw33.LintLines': WHATEVER THE INPUT: true; the input reads as it did. -/
def lintLinesSpec : ChangeSpec := { name := "lintLines", fn := fun _ => fun
  | [d] => { results := [.lit (.bool true)], args := [d] }
  | _ => none }
def lintLinesRow : OpenClaim := { program := "ytlofoifcdmeopaagreatdoor", sum := "47c402cac0159b38b1a17b35777198f05c6d5e32d7f31ff6962a00af66c18e76", func := "clew/clewlaw33.LintLines", spec := "lintLines", inPlace := ["internal/bytealg.IndexByteString", "internal/bytealg.IndexString", "internal/abi.NoEscape"], unfollowed := true, recurses := true, named := ["internal/bytealg.MaxLen", "unicode/utf8.first", "unicode/utf8.acceptRanges", "internal/strconv.uint64pow10", "math/bits.deBruijn32tab", "math/bits.deBruijn64tab"], apart := false, laid := [("math/bits.deBruijn32tab", laid_math_bits_deBruijn32tab), ("math/bits.deBruijn64tab", laid_math_bits_deBruijn64tab), ("internal/strconv.uint64pow10", laid_internal_strconv_uint64pow10), ("unicode/utf8.acceptRanges", laid_unicode_utf8_acceptRanges), ("unicode/utf8.first", laid_unicode_utf8_first)] }
def LintLinesSaid : Prop := lintLinesRow.holds Tryz.pinned (OpenSpec.ofChange lintLinesSpec)

/-- ITS FALSE NEIGHBOUR: 'it returns false'. Refute it at one input. -/
def lintLinesWrong : ChangeSpec := { name := "lintLines", fn := fun _ => fun
  | [d] => { results := [.lit (.bool false)], args := [d] }
  | _ => none }
def LintLinesWrongFalsely : Prop := lintLinesRow.holds Tryz.pinned (OpenSpec.ofChange lintLinesWrong)

/- THE SECOND FORM. 'bulk': how many values and letters a reading holds, each counted each time it is reached (what is shared counts as often as it is met; a slice's spare places count too). A statement '..UptoSaid' is the law's where the arguments, and the package variables that the reading takes, are together of bulk at most 1048576: NARROWER than '..Said'. Prove '..Said' where nothing that the law and all that it calls make is longer than what came in: it says more and counts as full. Else prove '..UptoSaid'. A law counts once. -/
mutual
def uptoBulk {H : Type} : DataW H → Nat
  | .lit (.string bytes) => bytes.length + 1
  | .lit _ => 1
  | .nil => 1
  | .ptr d => uptoBulk d + 1
  | .slice elems spare => uptoBulkAll elems + uptoBulkAll spare + 1
  | .agg parts => uptoBulkAll parts + 1
  | .iface _ d => uptoBulk d + 1
  | .map entries => uptoBulkEntries entries + 1
  | .held _ => 1
def uptoBulkAll {H : Type} : List (DataW H) → Nat
  | [] => 0
  | d :: r => uptoBulk d + uptoBulkAll r
def uptoBulkEntries {H : Type} : List (Lit × DataW H) → Nat
  | [] => 0
  | x :: r => uptoBulkEntry x + uptoBulkEntries r
def uptoBulkEntry {H : Type} : Lit × DataW H → Nat
  | (.string bytes, d) => bytes.length + uptoBulk d + 1
  | (_, d) => uptoBulk d + 1
 end
def uptoSmall : (H : Type) → List (DataW H) → Bool := fun _ ds => decide (uptoBulkAll ds ≤ 1048576)
def OpenSpec.upto (s : _root_.Go.ChangeSpec) : _root_.Go.OpenSpec := { _root_.Go.OpenSpec.ofChange s with cond := some uptoSmall }

/-- 'clewlaw35.OutlineTrees', WHERE WHAT IT READS IS OF BULK AT MOST 1048576: true; the input reads as it did. -/
def outlineTreesUptoRow : OpenClaim := { program := "ytlofoifcdmeopaagreatdoor", sum := "47c402cac0159b38b1a17b35777198f05c6d5e32d7f31ff6962a00af66c18e76", func := "clew/clewlaw35.OutlineTrees", spec := "outlineTrees", inPlace := ["internal/bytealg.IndexByteString", "internal/bytealg.IndexString", "internal/abi.NoEscape", "internal/bytealg.MakeNoZero"], unfollowed := true, recurses := true, named := ["internal/bytealg.MaxLen", "unicode/utf8.first", "unicode/utf8.acceptRanges", "internal/strconv.uint64pow10", "math/bits.deBruijn32tab", "math/bits.deBruijn64tab"], apart := false, laid := [("math/bits.deBruijn32tab", laid_math_bits_deBruijn32tab), ("math/bits.deBruijn64tab", laid_math_bits_deBruijn64tab), ("internal/strconv.uint64pow10", laid_internal_strconv_uint64pow10), ("unicode/utf8.acceptRanges", laid_unicode_utf8_acceptRanges), ("unicode/utf8.first", laid_unicode_utf8_first)], narrowed := true }
def OutlineTreesUptoSaid : Prop := outlineTreesUptoRow.holds Tryz.pinned (OpenSpec.upto outlineTreesSpec)

/-- 'clewlaw35.OutlinePatterns', WHERE WHAT IT READS IS OF BULK AT MOST 1048576: true; the input reads as it did. -/
def outlinePatternsUptoRow : OpenClaim := { program := "ytlofoifcdmeopaagreatdoor", sum := "47c402cac0159b38b1a17b35777198f05c6d5e32d7f31ff6962a00af66c18e76", func := "clew/clewlaw35.OutlinePatterns", spec := "outlinePatterns", inPlace := ["internal/bytealg.IndexByteString", "internal/bytealg.IndexString", "internal/abi.NoEscape", "internal/bytealg.MakeNoZero"], unfollowed := true, recurses := true, named := ["internal/bytealg.MaxLen", "unicode/utf8.first", "unicode/utf8.acceptRanges", "internal/strconv.uint64pow10", "math/bits.deBruijn32tab", "math/bits.deBruijn64tab"], apart := false, laid := [("math/bits.deBruijn32tab", laid_math_bits_deBruijn32tab), ("math/bits.deBruijn64tab", laid_math_bits_deBruijn64tab), ("internal/strconv.uint64pow10", laid_internal_strconv_uint64pow10), ("unicode/utf8.acceptRanges", laid_unicode_utf8_acceptRanges), ("unicode/utf8.first", laid_unicode_utf8_first)], narrowed := true }
def OutlinePatternsUptoSaid : Prop := outlinePatternsUptoRow.holds Tryz.pinned (OpenSpec.upto outlinePatternsSpec)

/-- 'clewlaw08.ParseGroups', WHERE WHAT IT READS IS OF BULK AT MOST 1048576: true; the input reads as it did. -/
def parseGroupsUptoRow : OpenClaim := { program := "ytlofoifcdmeopaagreatdoor", sum := "47c402cac0159b38b1a17b35777198f05c6d5e32d7f31ff6962a00af66c18e76", func := "clew/clewlaw08.ParseGroups", spec := "parseGroups", inPlace := ["internal/bytealg.IndexByteString", "internal/bytealg.IndexString"], unfollowed := true, recurses := true, named := ["internal/bytealg.MaxLen", "unicode/utf8.first", "unicode/utf8.acceptRanges"], apart := false, laid := [("unicode/utf8.acceptRanges", laid_unicode_utf8_acceptRanges), ("unicode/utf8.first", laid_unicode_utf8_first)], narrowed := true }
def ParseGroupsUptoSaid : Prop := parseGroupsUptoRow.holds Tryz.pinned (OpenSpec.upto parseGroupsSpec)

/-- 'clewlaw08.ParseNumbers', WHERE WHAT IT READS IS OF BULK AT MOST 1048576: true; the input reads as it did. -/
def parseNumbersUptoRow : OpenClaim := { program := "ytlofoifcdmeopaagreatdoor", sum := "47c402cac0159b38b1a17b35777198f05c6d5e32d7f31ff6962a00af66c18e76", func := "clew/clewlaw08.ParseNumbers", spec := "parseNumbers", inPlace := ["internal/bytealg.IndexByteString", "internal/bytealg.IndexString"], unfollowed := true, recurses := true, named := ["internal/bytealg.MaxLen", "unicode/utf8.first", "unicode/utf8.acceptRanges"], apart := false, laid := [("unicode/utf8.acceptRanges", laid_unicode_utf8_acceptRanges), ("unicode/utf8.first", laid_unicode_utf8_first)], narrowed := true }
def ParseNumbersUptoSaid : Prop := parseNumbersUptoRow.holds Tryz.pinned (OpenSpec.upto parseNumbersSpec)

/-- 'clewlaw08.ParseWrapped', WHERE WHAT IT READS IS OF BULK AT MOST 1048576: true; the input reads as it did. -/
def parseWrappedUptoRow : OpenClaim := { program := "ytlofoifcdmeopaagreatdoor", sum := "47c402cac0159b38b1a17b35777198f05c6d5e32d7f31ff6962a00af66c18e76", func := "clew/clewlaw08.ParseWrapped", spec := "parseWrapped", inPlace := ["internal/bytealg.IndexByteString", "internal/bytealg.IndexString"], unfollowed := true, recurses := true, named := ["internal/bytealg.MaxLen", "unicode/utf8.first", "unicode/utf8.acceptRanges"], apart := false, laid := [("unicode/utf8.acceptRanges", laid_unicode_utf8_acceptRanges), ("unicode/utf8.first", laid_unicode_utf8_first)], narrowed := true }
def ParseWrappedUptoSaid : Prop := parseWrappedUptoRow.holds Tryz.pinned (OpenSpec.upto parseWrappedSpec)

/-- 'clewlaw08.ParseRight', WHERE WHAT IT READS IS OF BULK AT MOST 1048576: true; the input reads as it did. -/
def parseRightUptoRow : OpenClaim := { program := "ytlofoifcdmeopaagreatdoor", sum := "47c402cac0159b38b1a17b35777198f05c6d5e32d7f31ff6962a00af66c18e76", func := "clew/clewlaw08.ParseRight", spec := "parseRight", inPlace := ["internal/bytealg.IndexByteString", "internal/bytealg.IndexString"], unfollowed := true, recurses := true, named := ["internal/bytealg.MaxLen", "unicode/utf8.first", "unicode/utf8.acceptRanges", "clew/ast.rules"], apart := false, laid := [("unicode/utf8.acceptRanges", laid_unicode_utf8_acceptRanges), ("clew/ast.rules", laid_clew_ast_rules), ("unicode/utf8.first", laid_unicode_utf8_first)], narrowed := true }
def ParseRightUptoSaid : Prop := parseRightUptoRow.holds Tryz.pinned (OpenSpec.upto parseRightSpec)

/-- 'clewlaw09.WellWidths', WHERE WHAT IT READS IS OF BULK AT MOST 1048576: true; the input reads as it did. -/
def wellWidthsUptoRow : OpenClaim := { program := "ytlofoifcdmeopaagreatdoor", sum := "47c402cac0159b38b1a17b35777198f05c6d5e32d7f31ff6962a00af66c18e76", func := "clew/clewlaw09.WellWidths", spec := "wellWidths", inPlace := ["internal/bytealg.IndexByteString", "internal/bytealg.IndexString"], unfollowed := true, recurses := true, named := ["internal/bytealg.MaxLen", "unicode/utf8.first", "unicode/utf8.acceptRanges"], apart := false, laid := [("unicode/utf8.acceptRanges", laid_unicode_utf8_acceptRanges), ("unicode/utf8.first", laid_unicode_utf8_first)], narrowed := true }
def WellWidthsUptoSaid : Prop := wellWidthsUptoRow.holds Tryz.pinned (OpenSpec.upto wellWidthsSpec)

/-- 'clewlaw09.WellChecks', WHERE WHAT IT READS IS OF BULK AT MOST 1048576: true; the input reads as it did. -/
def wellChecksUptoRow : OpenClaim := { program := "ytlofoifcdmeopaagreatdoor", sum := "47c402cac0159b38b1a17b35777198f05c6d5e32d7f31ff6962a00af66c18e76", func := "clew/clewlaw09.WellChecks", spec := "wellChecks", inPlace := ["internal/bytealg.IndexByteString", "internal/bytealg.IndexString"], unfollowed := true, recurses := true, named := ["internal/bytealg.MaxLen", "unicode/utf8.first", "unicode/utf8.acceptRanges"], apart := false, laid := [("unicode/utf8.acceptRanges", laid_unicode_utf8_acceptRanges), ("unicode/utf8.first", laid_unicode_utf8_first)], narrowed := true }
def WellChecksUptoSaid : Prop := wellChecksUptoRow.holds Tryz.pinned (OpenSpec.upto wellChecksSpec)

/-- 'clewlaw09.WellOrdered', WHERE WHAT IT READS IS OF BULK AT MOST 1048576: true; the input reads as it did. -/
def wellOrderedUptoRow : OpenClaim := { program := "ytlofoifcdmeopaagreatdoor", sum := "47c402cac0159b38b1a17b35777198f05c6d5e32d7f31ff6962a00af66c18e76", func := "clew/clewlaw09.WellOrdered", spec := "wellOrdered", inPlace := ["internal/bytealg.IndexByteString", "internal/bytealg.IndexString"], unfollowed := true, recurses := true, named := ["internal/bytealg.MaxLen", "unicode/utf8.first", "unicode/utf8.acceptRanges"], apart := false, laid := [("unicode/utf8.acceptRanges", laid_unicode_utf8_acceptRanges), ("unicode/utf8.first", laid_unicode_utf8_first)], narrowed := true }
def WellOrderedUptoSaid : Prop := wellOrderedUptoRow.holds Tryz.pinned (OpenSpec.upto wellOrderedSpec)

/-- 'clewlaw09.WellPatterns', WHERE WHAT IT READS IS OF BULK AT MOST 1048576: true; the input reads as it did. -/
def wellPatternsUptoRow : OpenClaim := { program := "ytlofoifcdmeopaagreatdoor", sum := "47c402cac0159b38b1a17b35777198f05c6d5e32d7f31ff6962a00af66c18e76", func := "clew/clewlaw09.WellPatterns", spec := "wellPatterns", inPlace := ["internal/bytealg.IndexByteString", "internal/bytealg.IndexString"], unfollowed := true, recurses := true, named := ["internal/bytealg.MaxLen", "unicode/utf8.first", "unicode/utf8.acceptRanges"], apart := false, laid := [("unicode/utf8.acceptRanges", laid_unicode_utf8_acceptRanges), ("unicode/utf8.first", laid_unicode_utf8_first)], narrowed := true }
def WellPatternsUptoSaid : Prop := wellPatternsUptoRow.holds Tryz.pinned (OpenSpec.upto wellPatternsSpec)

/-- 'clewlaw33.LintDoubts', WHERE WHAT IT READS IS OF BULK AT MOST 1048576: true; the input reads as it did. -/
def lintDoubtsUptoRow : OpenClaim := { program := "ytlofoifcdmeopaagreatdoor", sum := "47c402cac0159b38b1a17b35777198f05c6d5e32d7f31ff6962a00af66c18e76", func := "clew/clewlaw33.LintDoubts", spec := "lintDoubts", inPlace := ["internal/bytealg.IndexByteString", "internal/bytealg.IndexString"], unfollowed := true, recurses := true, named := ["internal/bytealg.MaxLen", "unicode/utf8.first", "unicode/utf8.acceptRanges"], apart := false, laid := [("unicode/utf8.acceptRanges", laid_unicode_utf8_acceptRanges), ("unicode/utf8.first", laid_unicode_utf8_first)], narrowed := true }
def LintDoubtsUptoSaid : Prop := lintDoubtsUptoRow.holds Tryz.pinned (OpenSpec.upto lintDoubtsSpec)

/-- 'clewlaw33.LintTwice', WHERE WHAT IT READS IS OF BULK AT MOST 1048576: true; the input reads as it did. -/
def lintTwiceUptoRow : OpenClaim := { program := "ytlofoifcdmeopaagreatdoor", sum := "47c402cac0159b38b1a17b35777198f05c6d5e32d7f31ff6962a00af66c18e76", func := "clew/clewlaw33.LintTwice", spec := "lintTwice", inPlace := ["internal/bytealg.IndexByteString", "internal/bytealg.IndexString"], unfollowed := true, recurses := true, named := ["internal/bytealg.MaxLen", "unicode/utf8.first", "unicode/utf8.acceptRanges"], apart := false, laid := [("unicode/utf8.acceptRanges", laid_unicode_utf8_acceptRanges), ("unicode/utf8.first", laid_unicode_utf8_first)], narrowed := true }
def LintTwiceUptoSaid : Prop := lintTwiceUptoRow.holds Tryz.pinned (OpenSpec.upto lintTwiceSpec)

/-- 'clewlaw10.ShowSettles', WHERE WHAT IT READS IS OF BULK AT MOST 1048576: true; the input reads as it did. -/
def showSettlesUptoRow : OpenClaim := { program := "ytlofoifcdmeopaagreatdoor", sum := "47c402cac0159b38b1a17b35777198f05c6d5e32d7f31ff6962a00af66c18e76", func := "clew/clewlaw10.ShowSettles", spec := "showSettles", inPlace := ["internal/bytealg.IndexByteString", "internal/bytealg.IndexString", "internal/abi.NoEscape"], unfollowed := true, recurses := true, named := ["internal/bytealg.MaxLen", "unicode/utf8.first", "unicode/utf8.acceptRanges", "clew/show.holds", "clew/show.looks", "internal/strconv.uint64pow10", "math/bits.deBruijn32tab", "math/bits.deBruijn64tab"], apart := false, laid := [("math/bits.deBruijn32tab", laid_math_bits_deBruijn32tab), ("math/bits.deBruijn64tab", laid_math_bits_deBruijn64tab), ("internal/strconv.uint64pow10", laid_internal_strconv_uint64pow10), ("unicode/utf8.acceptRanges", laid_unicode_utf8_acceptRanges), ("clew/show.holds", laid_clew_show_holds), ("clew/show.looks", laid_clew_show_looks), ("unicode/utf8.first", laid_unicode_utf8_first)], narrowed := true }
def ShowSettlesUptoSaid : Prop := showSettlesUptoRow.holds Tryz.pinned (OpenSpec.upto showSettlesSpec)

/-- 'clewlaw10.ShowQuotes', WHERE WHAT IT READS IS OF BULK AT MOST 1048576: true; the input reads as it did. -/
def showQuotesUptoRow : OpenClaim := { program := "ytlofoifcdmeopaagreatdoor", sum := "47c402cac0159b38b1a17b35777198f05c6d5e32d7f31ff6962a00af66c18e76", func := "clew/clewlaw10.ShowQuotes", spec := "showQuotes", inPlace := ["internal/bytealg.IndexByteString", "internal/bytealg.IndexString", "internal/abi.NoEscape"], unfollowed := true, recurses := true, named := ["internal/bytealg.MaxLen", "unicode/utf8.first", "unicode/utf8.acceptRanges", "clew/show.holds", "clew/show.looks", "internal/strconv.uint64pow10", "math/bits.deBruijn32tab", "math/bits.deBruijn64tab"], apart := false, laid := [("math/bits.deBruijn32tab", laid_math_bits_deBruijn32tab), ("math/bits.deBruijn64tab", laid_math_bits_deBruijn64tab), ("internal/strconv.uint64pow10", laid_internal_strconv_uint64pow10), ("unicode/utf8.acceptRanges", laid_unicode_utf8_acceptRanges), ("clew/show.holds", laid_clew_show_holds), ("clew/show.looks", laid_clew_show_looks), ("unicode/utf8.first", laid_unicode_utf8_first)], narrowed := true }
def ShowQuotesUptoSaid : Prop := showQuotesUptoRow.holds Tryz.pinned (OpenSpec.upto showQuotesSpec)

/-- 'clewlaw10.ShowReads', WHERE WHAT IT READS IS OF BULK AT MOST 1048576: true; the input reads as it did. -/
def showReadsUptoRow : OpenClaim := { program := "ytlofoifcdmeopaagreatdoor", sum := "47c402cac0159b38b1a17b35777198f05c6d5e32d7f31ff6962a00af66c18e76", func := "clew/clewlaw10.ShowReads", spec := "showReads", inPlace := ["internal/bytealg.IndexByteString", "internal/bytealg.IndexString", "internal/abi.NoEscape"], unfollowed := true, recurses := true, named := ["internal/bytealg.MaxLen", "unicode/utf8.first", "unicode/utf8.acceptRanges", "clew/show.holds", "clew/show.looks", "internal/strconv.uint64pow10", "math/bits.deBruijn32tab", "math/bits.deBruijn64tab"], apart := false, laid := [("math/bits.deBruijn32tab", laid_math_bits_deBruijn32tab), ("math/bits.deBruijn64tab", laid_math_bits_deBruijn64tab), ("internal/strconv.uint64pow10", laid_internal_strconv_uint64pow10), ("unicode/utf8.acceptRanges", laid_unicode_utf8_acceptRanges), ("clew/show.holds", laid_clew_show_holds), ("clew/show.looks", laid_clew_show_looks), ("unicode/utf8.first", laid_unicode_utf8_first)], narrowed := true }
def ShowReadsUptoSaid : Prop := showReadsUptoRow.holds Tryz.pinned (OpenSpec.upto showReadsSpec)

/-- 'clewlaw33.LintLines', WHERE WHAT IT READS IS OF BULK AT MOST 1048576: true; the input reads as it did. -/
def lintLinesUptoRow : OpenClaim := { program := "ytlofoifcdmeopaagreatdoor", sum := "47c402cac0159b38b1a17b35777198f05c6d5e32d7f31ff6962a00af66c18e76", func := "clew/clewlaw33.LintLines", spec := "lintLines", inPlace := ["internal/bytealg.IndexByteString", "internal/bytealg.IndexString", "internal/abi.NoEscape"], unfollowed := true, recurses := true, named := ["internal/bytealg.MaxLen", "unicode/utf8.first", "unicode/utf8.acceptRanges", "internal/strconv.uint64pow10", "math/bits.deBruijn32tab", "math/bits.deBruijn64tab"], apart := false, laid := [("math/bits.deBruijn32tab", laid_math_bits_deBruijn32tab), ("math/bits.deBruijn64tab", laid_math_bits_deBruijn64tab), ("internal/strconv.uint64pow10", laid_internal_strconv_uint64pow10), ("unicode/utf8.acceptRanges", laid_unicode_utf8_acceptRanges), ("unicode/utf8.first", laid_unicode_utf8_first)], narrowed := true }
def LintLinesUptoSaid : Prop := lintLinesUptoRow.holds Tryz.pinned (OpenSpec.upto lintLinesSpec)

end Rows
end Go.Proofs.YtlofoifcdmeopaaGreatDoor
