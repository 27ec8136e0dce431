/-
  NARROWER THAN 'FOR EVERY INPUT', by the rows' own cells (each row's printed sentence says how): PointTexts: laid · PointHolds: laid · PointRight: laid · AstParts: laid · AstSame: laid · AstPaths: laid · MarkLines: laid · MarkWindows: laid · CmdBlanks: laid · CmdNames: laid · CmdReads: laid · CmdTexts: laid · CodeRight: laid · CodeForward: laid · CodeLines: laid.
  DERIVED. THE GIVEN ROWS OF THIS SEAT. 15 by the template 'for every input the law returns true; each argument reads behind the call as it read before'; 0 by the template 'total and deterministic' (their statements: YtpfnmjpccmobpaaDoorTotals.lean).
  GIVEN WITH THE SEED: the statements are not yours to turn. If you find one false, say at which input.
  Laid BY PROGRAM, IN A SANDBOX (cutbox-rows.mjs): the forced cells as the released guide's own fill.sh prints them over the translation 98487d8bb6de3350… (all of the seat's roots in one cut). By AI agents, Wed Nov 11 2026. No macro, syntax, notation, axiom, sorry.
-/
import Derived.Test.YtpfnmjpccmobpaaDoorChecked
import GoSem.PinnedTables
import GoSem.Claim
import GoSem.ClaimJoined
import GoSem.ClaimMapViews
import Derived.JoinedTies
import Derived.KernelRfl
namespace Go.Proofs.YtpfnmjpccmobpaaDoor
/- THE CELL 'sum', in the pinned program and in every row, IS THE sha256 OF THE DUMP (.gsa) THAT YtpfnmjpccmobpaaDoorProg.lean LOADS. Nothing in Lean hashes anything: it is a label: what it is worth is what the hold of that sum in a sandbox is worth. -/
noncomputable def Tryd.pinned : Pinned := { name := "ytpfnmjpccmobpaadoor", sum := "98487d8bb6de33503f60dbd9c35f76fe84448a91aa3249d215ec74c1e41033a9", checked := Tryd.checked }
namespace Rows
def none {H : Type} : Left H := { results := [], args := [] }

/- WHAT THE LISTED PACKAGE-LEVEL VARIABLES READ AS WHEN THE CALL BEGINS. Each datum BY PROGRAM (the guide's laid-datum.mjs) off the statement by which the dump's own 'gosem.cut.vars' lays the variable. In a bare row this is a premise. The card (YtpfnmjpccmobpaaDoorCards.lean) ties it to the program's text. -/
def laid_math_bits_deBruijn32tab {H : Type} : DataW H := .agg [.lit (.int .u8 0), .lit (.int .u8 1), .lit (.int .u8 28), .lit (.int .u8 2), .lit (.int .u8 29), .lit (.int .u8 14), .lit (.int .u8 24), .lit (.int .u8 3), .lit (.int .u8 30), .lit (.int .u8 22), .lit (.int .u8 20), .lit (.int .u8 15), .lit (.int .u8 25), .lit (.int .u8 17), .lit (.int .u8 4), .lit (.int .u8 8), .lit (.int .u8 31), .lit (.int .u8 27), .lit (.int .u8 13), .lit (.int .u8 23), .lit (.int .u8 21), .lit (.int .u8 19), .lit (.int .u8 16), .lit (.int .u8 7), .lit (.int .u8 26), .lit (.int .u8 12), .lit (.int .u8 18), .lit (.int .u8 6), .lit (.int .u8 11), .lit (.int .u8 5), .lit (.int .u8 10), .lit (.int .u8 9)]
def laid_math_bits_deBruijn64tab {H : Type} : DataW H := .agg [.lit (.int .u8 0), .lit (.int .u8 1), .lit (.int .u8 56), .lit (.int .u8 2), .lit (.int .u8 57), .lit (.int .u8 49), .lit (.int .u8 28), .lit (.int .u8 3), .lit (.int .u8 61), .lit (.int .u8 58), .lit (.int .u8 42), .lit (.int .u8 50), .lit (.int .u8 38), .lit (.int .u8 29), .lit (.int .u8 17), .lit (.int .u8 4), .lit (.int .u8 62), .lit (.int .u8 47), .lit (.int .u8 59), .lit (.int .u8 36), .lit (.int .u8 45), .lit (.int .u8 43), .lit (.int .u8 51), .lit (.int .u8 22), .lit (.int .u8 53), .lit (.int .u8 39), .lit (.int .u8 33), .lit (.int .u8 30), .lit (.int .u8 24), .lit (.int .u8 18), .lit (.int .u8 12), .lit (.int .u8 5), .lit (.int .u8 63), .lit (.int .u8 55), .lit (.int .u8 48), .lit (.int .u8 27), .lit (.int .u8 60), .lit (.int .u8 41), .lit (.int .u8 37), .lit (.int .u8 16), .lit (.int .u8 46), .lit (.int .u8 35), .lit (.int .u8 44), .lit (.int .u8 21), .lit (.int .u8 52), .lit (.int .u8 32), .lit (.int .u8 23), .lit (.int .u8 11), .lit (.int .u8 54), .lit (.int .u8 26), .lit (.int .u8 40), .lit (.int .u8 15), .lit (.int .u8 34), .lit (.int .u8 20), .lit (.int .u8 31), .lit (.int .u8 10), .lit (.int .u8 25), .lit (.int .u8 14), .lit (.int .u8 19), .lit (.int .u8 9), .lit (.int .u8 13), .lit (.int .u8 8), .lit (.int .u8 7), .lit (.int .u8 6)]
def laid_internal_strconv_uint64pow10 {H : Type} : DataW H := .agg [.lit (.int .u64 1), .lit (.int .u64 10), .lit (.int .u64 100), .lit (.int .u64 1000), .lit (.int .u64 10000), .lit (.int .u64 100000), .lit (.int .u64 1000000), .lit (.int .u64 10000000), .lit (.int .u64 100000000), .lit (.int .u64 1000000000), .lit (.int .u64 10000000000), .lit (.int .u64 100000000000), .lit (.int .u64 1000000000000), .lit (.int .u64 10000000000000), .lit (.int .u64 100000000000000), .lit (.int .u64 1000000000000000), .lit (.int .u64 10000000000000000), .lit (.int .u64 100000000000000000), .lit (.int .u64 1000000000000000000), .lit (.int .u64 10000000000000000000)]
def laid_clew_ast_rules {H : Type} : DataW H := .agg [.agg [.lit (.int .i64 0), .lit (.int .i64 0), .lit (.int .i64 0), .lit (.int .i64 0)], .agg [.lit (.int .i64 0), .lit (.int .i64 0), .lit (.int .i64 0), .lit (.int .i64 0)], .agg [.lit (.int .i64 0), .lit (.int .i64 0), .lit (.int .i64 0), .lit (.int .i64 0)], .agg [.lit (.int .i64 0), .lit (.int .i64 0), .lit (.int .i64 7), .lit (.int .i64 0)], .agg [.lit (.int .i64 0), .lit (.int .i64 0), .lit (.int .i64 99), .lit (.int .i64 1)], .agg [.lit (.int .i64 2), .lit (.int .i64 4096), .lit (.int .i64 0), .lit (.int .i64 0)], .agg [.lit (.int .i64 2), .lit (.int .i64 4097), .lit (.int .i64 0), .lit (.int .i64 0)], .agg [.lit (.int .i64 1), .lit (.int .i64 1), .lit (.int .i64 99), .lit (.int .i64 0)], .agg [.lit (.int .i64 1), .lit (.int .i64 1), .lit (.int .i64 0), .lit (.int .i64 1)], .agg [.lit (.int .i64 1), .lit (.int .i64 1), .lit (.int .i64 0), .lit (.int .i64 0)], .agg [.lit (.int .i64 1), .lit (.int .i64 1), .lit (.int .i64 4), .lit (.int .i64 0)]]
def laid_unicode_utf8_acceptRanges {H : Type} : DataW H := .agg [.agg [.lit (.int .u8 128), .lit (.int .u8 191)], .agg [.lit (.int .u8 160), .lit (.int .u8 191)], .agg [.lit (.int .u8 128), .lit (.int .u8 159)], .agg [.lit (.int .u8 144), .lit (.int .u8 191)], .agg [.lit (.int .u8 128), .lit (.int .u8 143)], .agg [.lit (.int .u8 0), .lit (.int .u8 0)], .agg [.lit (.int .u8 0), .lit (.int .u8 0)], .agg [.lit (.int .u8 0), .lit (.int .u8 0)], .agg [.lit (.int .u8 0), .lit (.int .u8 0)], .agg [.lit (.int .u8 0), .lit (.int .u8 0)], .agg [.lit (.int .u8 0), .lit (.int .u8 0)], .agg [.lit (.int .u8 0), .lit (.int .u8 0)], .agg [.lit (.int .u8 0), .lit (.int .u8 0)], .agg [.lit (.int .u8 0), .lit (.int .u8 0)], .agg [.lit (.int .u8 0), .lit (.int .u8 0)], .agg [.lit (.int .u8 0), .lit (.int .u8 0)]]
/-- One of Go's own tables, pinned by name: the form's constant. -/
def laid_unicode_utf8_first : DataW Unit := Go.Pinned.utf8First
def laid_strconv_ErrRange {H : Type} : DataW H := .iface "*errors.errorString" (.ptr (.agg [.lit (.string [118, 97, 108, 117, 101, 32, 111, 117, 116, 32, 111, 102, 32, 114, 97, 110, 103, 101])]))
def laid_strconv_ErrSyntax {H : Type} : DataW H := .iface "*errors.errorString" (.ptr (.agg [.lit (.string [105, 110, 118, 97, 108, 105, 100, 32, 115, 121, 110, 116, 97, 120])]))

/-- 'clewlaw22.PointTexts': WHATEVER THE INPUT: true; the input reads as it did. -/
def pointTextsSpec : ChangeSpec := { name := "pointTexts", fn := fun _ => fun
  | [d] => { results := [.lit (.bool true)], args := [d] }
  | _ => none }
def pointTextsRow : OpenClaim := { program := "ytpfnmjpccmobpaadoor", sum := "98487d8bb6de33503f60dbd9c35f76fe84448a91aa3249d215ec74c1e41033a9", func := "clew/clewlaw22.PointTexts", spec := "pointTexts", recurses := true, named := ["internal/strconv.uint64pow10", "math/bits.deBruijn32tab", "math/bits.deBruijn64tab"], apart := false, laid := [("math/bits.deBruijn32tab", laid_math_bits_deBruijn32tab), ("math/bits.deBruijn64tab", laid_math_bits_deBruijn64tab), ("internal/strconv.uint64pow10", laid_internal_strconv_uint64pow10)] }
def PointTextsSaid : Prop := pointTextsRow.holds Tryd.pinned (OpenSpec.ofChange pointTextsSpec)

/-- ITS FALSE NEIGHBOUR: 'it returns false'. Refute it at one input. -/
def pointTextsWrong : ChangeSpec := { name := "pointTexts", fn := fun _ => fun
  | [d] => { results := [.lit (.bool false)], args := [d] }
  | _ => none }
def PointTextsWrongFalsely : Prop := pointTextsRow.holds Tryd.pinned (OpenSpec.ofChange pointTextsWrong)

/-- 'clewlaw22.PointHolds': WHATEVER THE INPUT: true; the input reads as it did. -/
def pointHoldsSpec : ChangeSpec := { name := "pointHolds", fn := fun _ => fun
  | [d1, d2, d3, d4] => { results := [.lit (.bool true)], args := [d1, d2, d3, d4] }
  | _ => none }
def pointHoldsRow : OpenClaim := { program := "ytpfnmjpccmobpaadoor", sum := "98487d8bb6de33503f60dbd9c35f76fe84448a91aa3249d215ec74c1e41033a9", func := "clew/clewlaw22.PointHolds", spec := "pointHolds", unfollowed := true, recurses := true, named := ["internal/strconv.uint64pow10", "math/bits.deBruijn32tab", "math/bits.deBruijn64tab"], apart := false, laid := [("math/bits.deBruijn32tab", laid_math_bits_deBruijn32tab), ("math/bits.deBruijn64tab", laid_math_bits_deBruijn64tab), ("internal/strconv.uint64pow10", laid_internal_strconv_uint64pow10)] }
def PointHoldsSaid : Prop := pointHoldsRow.holds Tryd.pinned (OpenSpec.ofChange pointHoldsSpec)

/-- ITS FALSE NEIGHBOUR: 'it returns false'. Refute it at one input. -/
def pointHoldsWrong : ChangeSpec := { name := "pointHolds", fn := fun _ => fun
  | [d1, d2, d3, d4] => { results := [.lit (.bool false)], args := [d1, d2, d3, d4] }
  | _ => none }
def PointHoldsWrongFalsely : Prop := pointHoldsRow.holds Tryd.pinned (OpenSpec.ofChange pointHoldsWrong)

/-- 'clewlaw22.PointRight': WHATEVER THE INPUT: true; the input reads as it did. -/
def pointRightSpec : ChangeSpec := { name := "pointRight", fn := fun _ => fun
  | [d1, d2] => { results := [.lit (.bool true)], args := [d1, d2] }
  | _ => none }
def pointRightRow : OpenClaim := { program := "ytpfnmjpccmobpaadoor", sum := "98487d8bb6de33503f60dbd9c35f76fe84448a91aa3249d215ec74c1e41033a9", func := "clew/clewlaw22.PointRight", spec := "pointRight", recurses := true, named := ["internal/strconv.uint64pow10", "math/bits.deBruijn32tab", "math/bits.deBruijn64tab"], apart := false, laid := [("math/bits.deBruijn32tab", laid_math_bits_deBruijn32tab), ("math/bits.deBruijn64tab", laid_math_bits_deBruijn64tab), ("internal/strconv.uint64pow10", laid_internal_strconv_uint64pow10)] }
def PointRightSaid : Prop := pointRightRow.holds Tryd.pinned (OpenSpec.ofChange pointRightSpec)

/-- ITS FALSE NEIGHBOUR: 'it returns false'. Refute it at one input. -/
def pointRightWrong : ChangeSpec := { name := "pointRight", fn := fun _ => fun
  | [d1, d2] => { results := [.lit (.bool false)], args := [d1, d2] }
  | _ => none }
def PointRightWrongFalsely : Prop := pointRightRow.holds Tryd.pinned (OpenSpec.ofChange pointRightWrong)

/-- 'clewlaw06.AstParts': WHATEVER THE INPUT: true; the input reads as it did. -/
def astPartsSpec : ChangeSpec := { name := "astParts", fn := fun _ => fun
  | [d1, d2, d3] => { results := [.lit (.bool true)], args := [d1, d2, d3] }
  | _ => none }
def astPartsRow : OpenClaim := { program := "ytpfnmjpccmobpaadoor", sum := "98487d8bb6de33503f60dbd9c35f76fe84448a91aa3249d215ec74c1e41033a9", func := "clew/clewlaw06.AstParts", spec := "astParts", unfollowed := true, recurses := true, named := ["clew/ast.rules"], apart := false, laid := [("clew/ast.rules", laid_clew_ast_rules)] }
def AstPartsSaid : Prop := astPartsRow.holds Tryd.pinned (OpenSpec.ofChange astPartsSpec)

/-- ITS FALSE NEIGHBOUR: 'it returns false'. Refute it at one input. -/
def astPartsWrong : ChangeSpec := { name := "astParts", fn := fun _ => fun
  | [d1, d2, d3] => { results := [.lit (.bool false)], args := [d1, d2, d3] }
  | _ => none }
def AstPartsWrongFalsely : Prop := astPartsRow.holds Tryd.pinned (OpenSpec.ofChange astPartsWrong)

/-- 'clewlaw06.AstSame': WHATEVER THE INPUT: true; the input reads as it did. -/
def astSameSpec : ChangeSpec := { name := "astSame", fn := fun _ => fun
  | [d1, d2, d3] => { results := [.lit (.bool true)], args := [d1, d2, d3] }
  | _ => none }
def astSameRow : OpenClaim := { program := "ytpfnmjpccmobpaadoor", sum := "98487d8bb6de33503f60dbd9c35f76fe84448a91aa3249d215ec74c1e41033a9", func := "clew/clewlaw06.AstSame", spec := "astSame", unfollowed := true, recurses := true, named := ["clew/ast.rules"], apart := false, laid := [("clew/ast.rules", laid_clew_ast_rules)] }
def AstSameSaid : Prop := astSameRow.holds Tryd.pinned (OpenSpec.ofChange astSameSpec)

/-- ITS FALSE NEIGHBOUR: 'it returns false'. Refute it at one input. -/
def astSameWrong : ChangeSpec := { name := "astSame", fn := fun _ => fun
  | [d1, d2, d3] => { results := [.lit (.bool false)], args := [d1, d2, d3] }
  | _ => none }
def AstSameWrongFalsely : Prop := astSameRow.holds Tryd.pinned (OpenSpec.ofChange astSameWrong)

/-- 'clewlaw06.AstPaths': WHATEVER THE INPUT: true; the input reads as it did. -/
def astPathsSpec : ChangeSpec := { name := "astPaths", fn := fun _ => fun
  | [d1, d2, d3] => { results := [.lit (.bool true)], args := [d1, d2, d3] }
  | _ => none }
def astPathsRow : OpenClaim := { program := "ytpfnmjpccmobpaadoor", sum := "98487d8bb6de33503f60dbd9c35f76fe84448a91aa3249d215ec74c1e41033a9", func := "clew/clewlaw06.AstPaths", spec := "astPaths", unfollowed := true, recurses := true, named := ["clew/ast.rules"], apart := false, laid := [("clew/ast.rules", laid_clew_ast_rules)] }
def AstPathsSaid : Prop := astPathsRow.holds Tryd.pinned (OpenSpec.ofChange astPathsSpec)

/-- ITS FALSE NEIGHBOUR: 'it returns false'. Refute it at one input. -/
def astPathsWrong : ChangeSpec := { name := "astPaths", fn := fun _ => fun
  | [d1, d2, d3] => { results := [.lit (.bool false)], args := [d1, d2, d3] }
  | _ => none }
def AstPathsWrongFalsely : Prop := astPathsRow.holds Tryd.pinned (OpenSpec.ofChange astPathsWrong)

/-- 'clewlaw34.MarkLines': WHATEVER THE INPUT: true; the input reads as it did. -/
def markLinesSpec : ChangeSpec := { name := "markLines", fn := fun _ => fun
  | [d1, d2, d3, d4] => { results := [.lit (.bool true)], args := [d1, d2, d3, d4] }
  | _ => none }
def markLinesRow : OpenClaim := { program := "ytpfnmjpccmobpaadoor", sum := "98487d8bb6de33503f60dbd9c35f76fe84448a91aa3249d215ec74c1e41033a9", func := "clew/clewlaw34.MarkLines", spec := "markLines", inPlace := ["internal/abi.NoEscape", "internal/bytealg.MakeNoZero", "internal/bytealg.IndexByteString", "internal/bytealg.IndexString"], unfollowed := true, recurses := true, named := ["unicode/utf8.first", "unicode/utf8.acceptRanges", "internal/bytealg.MaxLen"], apart := false, laid := [("unicode/utf8.acceptRanges", laid_unicode_utf8_acceptRanges), ("unicode/utf8.first", laid_unicode_utf8_first)] }
def MarkLinesSaid : Prop := markLinesRow.holds Tryd.pinned (OpenSpec.ofChange markLinesSpec)

/-- ITS FALSE NEIGHBOUR: 'it returns false'. Refute it at one input. -/
def markLinesWrong : ChangeSpec := { name := "markLines", fn := fun _ => fun
  | [d1, d2, d3, d4] => { results := [.lit (.bool false)], args := [d1, d2, d3, d4] }
  | _ => none }
def MarkLinesWrongFalsely : Prop := markLinesRow.holds Tryd.pinned (OpenSpec.ofChange markLinesWrong)

/-- 'clewlaw34.MarkWindows': WHATEVER THE INPUT: true; the input reads as it did. -/
def markWindowsSpec : ChangeSpec := { name := "markWindows", fn := fun _ => fun
  | [d1, d2, d3, d4, d5] => { results := [.lit (.bool true)], args := [d1, d2, d3, d4, d5] }
  | _ => none }
def markWindowsRow : OpenClaim := { program := "ytpfnmjpccmobpaadoor", sum := "98487d8bb6de33503f60dbd9c35f76fe84448a91aa3249d215ec74c1e41033a9", func := "clew/clewlaw34.MarkWindows", spec := "markWindows", inPlace := ["internal/abi.NoEscape", "internal/bytealg.MakeNoZero", "internal/bytealg.IndexByteString", "internal/bytealg.IndexString"], unfollowed := true, recurses := true, named := ["unicode/utf8.first", "unicode/utf8.acceptRanges", "internal/bytealg.MaxLen"], apart := false, laid := [("unicode/utf8.acceptRanges", laid_unicode_utf8_acceptRanges), ("unicode/utf8.first", laid_unicode_utf8_first)] }
def MarkWindowsSaid : Prop := markWindowsRow.holds Tryd.pinned (OpenSpec.ofChange markWindowsSpec)

/-- ITS FALSE NEIGHBOUR: 'it returns false'. Refute it at one input. -/
def markWindowsWrong : ChangeSpec := { name := "markWindows", fn := fun _ => fun
  | [d1, d2, d3, d4, d5] => { results := [.lit (.bool false)], args := [d1, d2, d3, d4, d5] }
  | _ => none }
def MarkWindowsWrongFalsely : Prop := markWindowsRow.holds Tryd.pinned (OpenSpec.ofChange markWindowsWrong)

/-- 'clewlaw26.CmdBlanks': WHATEVER THE INPUT: true; the input reads as it did. -/
def cmdBlanksSpec : ChangeSpec := { name := "cmdBlanks", fn := fun _ => fun
  | [d1, d2] => { results := [.lit (.bool true)], args := [d1, d2] }
  | _ => none }
def cmdBlanksRow : OpenClaim := { program := "ytpfnmjpccmobpaadoor", sum := "98487d8bb6de33503f60dbd9c35f76fe84448a91aa3249d215ec74c1e41033a9", func := "clew/clewlaw26.CmdBlanks", spec := "cmdBlanks", unfollowed := true, recurses := true, named := ["strconv.ErrSyntax", "strconv.ErrRange", "internal/strconv.uint64pow10", "math/bits.deBruijn32tab", "math/bits.deBruijn64tab"], apart := false, laid := [("math/bits.deBruijn32tab", laid_math_bits_deBruijn32tab), ("math/bits.deBruijn64tab", laid_math_bits_deBruijn64tab), ("internal/strconv.uint64pow10", laid_internal_strconv_uint64pow10), ("strconv.ErrRange", laid_strconv_ErrRange), ("strconv.ErrSyntax", laid_strconv_ErrSyntax)] }
def CmdBlanksSaid : Prop := cmdBlanksRow.holds Tryd.pinned (OpenSpec.ofChange cmdBlanksSpec)

/-- ITS FALSE NEIGHBOUR: 'it returns false'. Refute it at one input. -/
def cmdBlanksWrong : ChangeSpec := { name := "cmdBlanks", fn := fun _ => fun
  | [d1, d2] => { results := [.lit (.bool false)], args := [d1, d2] }
  | _ => none }
def CmdBlanksWrongFalsely : Prop := cmdBlanksRow.holds Tryd.pinned (OpenSpec.ofChange cmdBlanksWrong)

/-- 'clewlaw26.CmdNames': WHATEVER THE INPUT: true; the input reads as it did. -/
def cmdNamesSpec : ChangeSpec := { name := "cmdNames", fn := fun _ => fun
  | [d] => { results := [.lit (.bool true)], args := [d] }
  | _ => none }
def cmdNamesRow : OpenClaim := { program := "ytpfnmjpccmobpaadoor", sum := "98487d8bb6de33503f60dbd9c35f76fe84448a91aa3249d215ec74c1e41033a9", func := "clew/clewlaw26.CmdNames", spec := "cmdNames", unfollowed := true, recurses := true, named := ["strconv.ErrSyntax", "strconv.ErrRange", "internal/strconv.uint64pow10", "math/bits.deBruijn32tab", "math/bits.deBruijn64tab"], apart := false, laid := [("math/bits.deBruijn32tab", laid_math_bits_deBruijn32tab), ("math/bits.deBruijn64tab", laid_math_bits_deBruijn64tab), ("internal/strconv.uint64pow10", laid_internal_strconv_uint64pow10), ("strconv.ErrRange", laid_strconv_ErrRange), ("strconv.ErrSyntax", laid_strconv_ErrSyntax)] }
def CmdNamesSaid : Prop := cmdNamesRow.holds Tryd.pinned (OpenSpec.ofChange cmdNamesSpec)

/-- ITS FALSE NEIGHBOUR: 'it returns false'. Refute it at one input. -/
def cmdNamesWrong : ChangeSpec := { name := "cmdNames", fn := fun _ => fun
  | [d] => { results := [.lit (.bool false)], args := [d] }
  | _ => none }
def CmdNamesWrongFalsely : Prop := cmdNamesRow.holds Tryd.pinned (OpenSpec.ofChange cmdNamesWrong)

/-- 'clewlaw26.CmdReads': WHATEVER THE INPUT: true; the input reads as it did. -/
def cmdReadsSpec : ChangeSpec := { name := "cmdReads", fn := fun _ => fun
  | [d] => { results := [.lit (.bool true)], args := [d] }
  | _ => none }
def cmdReadsRow : OpenClaim := { program := "ytpfnmjpccmobpaadoor", sum := "98487d8bb6de33503f60dbd9c35f76fe84448a91aa3249d215ec74c1e41033a9", func := "clew/clewlaw26.CmdReads", spec := "cmdReads", unfollowed := true, recurses := true, named := ["strconv.ErrSyntax", "strconv.ErrRange", "internal/strconv.uint64pow10", "math/bits.deBruijn32tab", "math/bits.deBruijn64tab"], apart := false, laid := [("math/bits.deBruijn32tab", laid_math_bits_deBruijn32tab), ("math/bits.deBruijn64tab", laid_math_bits_deBruijn64tab), ("internal/strconv.uint64pow10", laid_internal_strconv_uint64pow10), ("strconv.ErrRange", laid_strconv_ErrRange), ("strconv.ErrSyntax", laid_strconv_ErrSyntax)] }
def CmdReadsSaid : Prop := cmdReadsRow.holds Tryd.pinned (OpenSpec.ofChange cmdReadsSpec)

/-- ITS FALSE NEIGHBOUR: 'it returns false'. Refute it at one input. -/
def cmdReadsWrong : ChangeSpec := { name := "cmdReads", fn := fun _ => fun
  | [d] => { results := [.lit (.bool false)], args := [d] }
  | _ => none }
def CmdReadsWrongFalsely : Prop := cmdReadsRow.holds Tryd.pinned (OpenSpec.ofChange cmdReadsWrong)

/-- 'clewlaw26.CmdTexts': WHATEVER THE INPUT: true; the input reads as it did. -/
def cmdTextsSpec : ChangeSpec := { name := "cmdTexts", fn := fun _ => fun
  | [d] => { results := [.lit (.bool true)], args := [d] }
  | _ => none }
def cmdTextsRow : OpenClaim := { program := "ytpfnmjpccmobpaadoor", sum := "98487d8bb6de33503f60dbd9c35f76fe84448a91aa3249d215ec74c1e41033a9", func := "clew/clewlaw26.CmdTexts", spec := "cmdTexts", unfollowed := true, recurses := true, named := ["strconv.ErrSyntax", "strconv.ErrRange", "internal/strconv.uint64pow10", "math/bits.deBruijn32tab", "math/bits.deBruijn64tab"], apart := false, laid := [("math/bits.deBruijn32tab", laid_math_bits_deBruijn32tab), ("math/bits.deBruijn64tab", laid_math_bits_deBruijn64tab), ("internal/strconv.uint64pow10", laid_internal_strconv_uint64pow10), ("strconv.ErrRange", laid_strconv_ErrRange), ("strconv.ErrSyntax", laid_strconv_ErrSyntax)] }
def CmdTextsSaid : Prop := cmdTextsRow.holds Tryd.pinned (OpenSpec.ofChange cmdTextsSpec)

/-- ITS FALSE NEIGHBOUR: 'it returns false'. Refute it at one input. -/
def cmdTextsWrong : ChangeSpec := { name := "cmdTexts", fn := fun _ => fun
  | [d] => { results := [.lit (.bool false)], args := [d] }
  | _ => none }
def CmdTextsWrongFalsely : Prop := cmdTextsRow.holds Tryd.pinned (OpenSpec.ofChange cmdTextsWrong)

/-- 'clewlaw11.CodeRight': WHATEVER THE INPUT: true; the input reads as it did. -/
def codeRightSpec : ChangeSpec := { name := "codeRight", fn := fun _ => fun
  | [d] => { results := [.lit (.bool true)], args := [d] }
  | _ => none }
def codeRightRow : OpenClaim := { program := "ytpfnmjpccmobpaadoor", sum := "98487d8bb6de33503f60dbd9c35f76fe84448a91aa3249d215ec74c1e41033a9", func := "clew/clewlaw11.CodeRight", spec := "codeRight", inPlace := ["internal/abi.NoEscape", "internal/bytealg.MakeNoZero"], unfollowed := true, recurses := true, named := ["internal/strconv.uint64pow10", "math/bits.deBruijn32tab", "math/bits.deBruijn64tab"], apart := false, laid := [("math/bits.deBruijn32tab", laid_math_bits_deBruijn32tab), ("math/bits.deBruijn64tab", laid_math_bits_deBruijn64tab), ("internal/strconv.uint64pow10", laid_internal_strconv_uint64pow10)] }
def CodeRightSaid : Prop := codeRightRow.holds Tryd.pinned (OpenSpec.ofChange codeRightSpec)

/-- ITS FALSE NEIGHBOUR: 'it returns false'. Refute it at one input. -/
def codeRightWrong : ChangeSpec := { name := "codeRight", fn := fun _ => fun
  | [d] => { results := [.lit (.bool false)], args := [d] }
  | _ => none }
def CodeRightWrongFalsely : Prop := codeRightRow.holds Tryd.pinned (OpenSpec.ofChange codeRightWrong)

/-- 'clewlaw11.CodeForward': WHATEVER THE INPUT: true; the input reads as it did. -/
def codeForwardSpec : ChangeSpec := { name := "codeForward", fn := fun _ => fun
  | [d] => { results := [.lit (.bool true)], args := [d] }
  | _ => none }
def codeForwardRow : OpenClaim := { program := "ytpfnmjpccmobpaadoor", sum := "98487d8bb6de33503f60dbd9c35f76fe84448a91aa3249d215ec74c1e41033a9", func := "clew/clewlaw11.CodeForward", spec := "codeForward", inPlace := ["internal/abi.NoEscape", "internal/bytealg.MakeNoZero"], unfollowed := true, recurses := true, named := ["internal/strconv.uint64pow10", "math/bits.deBruijn32tab", "math/bits.deBruijn64tab"], apart := false, laid := [("math/bits.deBruijn32tab", laid_math_bits_deBruijn32tab), ("math/bits.deBruijn64tab", laid_math_bits_deBruijn64tab), ("internal/strconv.uint64pow10", laid_internal_strconv_uint64pow10)] }
def CodeForwardSaid : Prop := codeForwardRow.holds Tryd.pinned (OpenSpec.ofChange codeForwardSpec)

/-- ITS FALSE NEIGHBOUR: 'it returns false'. Refute it at one input. -/
def codeForwardWrong : ChangeSpec := { name := "codeForward", fn := fun _ => fun
  | [d] => { results := [.lit (.bool false)], args := [d] }
  | _ => none }
def CodeForwardWrongFalsely : Prop := codeForwardRow.holds Tryd.pinned (OpenSpec.ofChange codeForwardWrong)

/-- 'clewlaw11.CodeLines': WHATEVER THE INPUT: true; the input reads as it did. -/
def codeLinesSpec : ChangeSpec := { name := "codeLines", fn := fun _ => fun
  | [d] => { results := [.lit (.bool true)], args := [d] }
  | _ => none }
def codeLinesRow : OpenClaim := { program := "ytpfnmjpccmobpaadoor", sum := "98487d8bb6de33503f60dbd9c35f76fe84448a91aa3249d215ec74c1e41033a9", func := "clew/clewlaw11.CodeLines", spec := "codeLines", inPlace := ["internal/abi.NoEscape", "internal/bytealg.MakeNoZero"], unfollowed := true, recurses := true, named := ["internal/strconv.uint64pow10", "math/bits.deBruijn32tab", "math/bits.deBruijn64tab"], apart := false, laid := [("math/bits.deBruijn32tab", laid_math_bits_deBruijn32tab), ("math/bits.deBruijn64tab", laid_math_bits_deBruijn64tab), ("internal/strconv.uint64pow10", laid_internal_strconv_uint64pow10)] }
def CodeLinesSaid : Prop := codeLinesRow.holds Tryd.pinned (OpenSpec.ofChange codeLinesSpec)

/-- ITS FALSE NEIGHBOUR: 'it returns false'. Refute it at one input. -/
def codeLinesWrong : ChangeSpec := { name := "codeLines", fn := fun _ => fun
  | [d] => { results := [.lit (.bool false)], args := [d] }
  | _ => none }
def CodeLinesWrongFalsely : Prop := codeLinesRow.holds Tryd.pinned (OpenSpec.ofChange codeLinesWrong)

/- THE SECOND FORM. 'bulk': how many values and letters a reading holds, each counted each time it is reached (what is shared counts as often as it is met; a slice's spare places count too). A statement '..UptoSaid' is the law's where the arguments, and the package variables that the reading takes, are together of bulk at most 1048576: NARROWER than '..Said'. Prove '..Said' where nothing that the law and all that it calls make is longer than what came in: it says more and counts as full. Else prove '..UptoSaid'. A law counts once. -/
mutual
def uptoBulk {H : Type} : DataW H → Nat
  | .lit (.string bytes) => bytes.length + 1
  | .lit _ => 1
  | .nil => 1
  | .ptr d => uptoBulk d + 1
  | .slice elems spare => uptoBulkAll elems + uptoBulkAll spare + 1
  | .agg parts => uptoBulkAll parts + 1
  | .iface _ d => uptoBulk d + 1
  | .map entries => uptoBulkEntries entries + 1
  | .held _ => 1
def uptoBulkAll {H : Type} : List (DataW H) → Nat
  | [] => 0
  | d :: r => uptoBulk d + uptoBulkAll r
def uptoBulkEntries {H : Type} : List (Lit × DataW H) → Nat
  | [] => 0
  | x :: r => uptoBulkEntry x + uptoBulkEntries r
def uptoBulkEntry {H : Type} : Lit × DataW H → Nat
  | (.string bytes, d) => bytes.length + uptoBulk d + 1
  | (_, d) => uptoBulk d + 1
 end
def uptoSmall : (H : Type) → List (DataW H) → Bool := fun _ ds => decide (uptoBulkAll ds ≤ 1048576)
def OpenSpec.upto (s : _root_.Go.ChangeSpec) : _root_.Go.OpenSpec := { _root_.Go.OpenSpec.ofChange s with cond := some uptoSmall }

/-- 'clewlaw22.PointTexts', WHERE WHAT IT READS IS OF BULK AT MOST 1048576: true; the input reads as it did. -/
def pointTextsUptoRow : OpenClaim := { program := "ytpfnmjpccmobpaadoor", sum := "98487d8bb6de33503f60dbd9c35f76fe84448a91aa3249d215ec74c1e41033a9", func := "clew/clewlaw22.PointTexts", spec := "pointTexts", recurses := true, named := ["internal/strconv.uint64pow10", "math/bits.deBruijn32tab", "math/bits.deBruijn64tab"], apart := false, laid := [("math/bits.deBruijn32tab", laid_math_bits_deBruijn32tab), ("math/bits.deBruijn64tab", laid_math_bits_deBruijn64tab), ("internal/strconv.uint64pow10", laid_internal_strconv_uint64pow10)], narrowed := true }
def PointTextsUptoSaid : Prop := pointTextsUptoRow.holds Tryd.pinned (OpenSpec.upto pointTextsSpec)

/-- 'clewlaw22.PointHolds', WHERE WHAT IT READS IS OF BULK AT MOST 1048576: true; the input reads as it did. -/
def pointHoldsUptoRow : OpenClaim := { program := "ytpfnmjpccmobpaadoor", sum := "98487d8bb6de33503f60dbd9c35f76fe84448a91aa3249d215ec74c1e41033a9", func := "clew/clewlaw22.PointHolds", spec := "pointHolds", unfollowed := true, recurses := true, named := ["internal/strconv.uint64pow10", "math/bits.deBruijn32tab", "math/bits.deBruijn64tab"], apart := false, laid := [("math/bits.deBruijn32tab", laid_math_bits_deBruijn32tab), ("math/bits.deBruijn64tab", laid_math_bits_deBruijn64tab), ("internal/strconv.uint64pow10", laid_internal_strconv_uint64pow10)], narrowed := true }
def PointHoldsUptoSaid : Prop := pointHoldsUptoRow.holds Tryd.pinned (OpenSpec.upto pointHoldsSpec)

/-- 'clewlaw22.PointRight', WHERE WHAT IT READS IS OF BULK AT MOST 1048576: true; the input reads as it did. -/
def pointRightUptoRow : OpenClaim := { program := "ytpfnmjpccmobpaadoor", sum := "98487d8bb6de33503f60dbd9c35f76fe84448a91aa3249d215ec74c1e41033a9", func := "clew/clewlaw22.PointRight", spec := "pointRight", recurses := true, named := ["internal/strconv.uint64pow10", "math/bits.deBruijn32tab", "math/bits.deBruijn64tab"], apart := false, laid := [("math/bits.deBruijn32tab", laid_math_bits_deBruijn32tab), ("math/bits.deBruijn64tab", laid_math_bits_deBruijn64tab), ("internal/strconv.uint64pow10", laid_internal_strconv_uint64pow10)], narrowed := true }
def PointRightUptoSaid : Prop := pointRightUptoRow.holds Tryd.pinned (OpenSpec.upto pointRightSpec)

/-- 'clewlaw06.AstParts', WHERE WHAT IT READS IS OF BULK AT MOST 1048576: true; the input reads as it did. -/
def astPartsUptoRow : OpenClaim := { program := "ytpfnmjpccmobpaadoor", sum := "98487d8bb6de33503f60dbd9c35f76fe84448a91aa3249d215ec74c1e41033a9", func := "clew/clewlaw06.AstParts", spec := "astParts", unfollowed := true, recurses := true, named := ["clew/ast.rules"], apart := false, laid := [("clew/ast.rules", laid_clew_ast_rules)], narrowed := true }
def AstPartsUptoSaid : Prop := astPartsUptoRow.holds Tryd.pinned (OpenSpec.upto astPartsSpec)

/-- 'clewlaw06.AstSame', WHERE WHAT IT READS IS OF BULK AT MOST 1048576: true; the input reads as it did. -/
def astSameUptoRow : OpenClaim := { program := "ytpfnmjpccmobpaadoor", sum := "98487d8bb6de33503f60dbd9c35f76fe84448a91aa3249d215ec74c1e41033a9", func := "clew/clewlaw06.AstSame", spec := "astSame", unfollowed := true, recurses := true, named := ["clew/ast.rules"], apart := false, laid := [("clew/ast.rules", laid_clew_ast_rules)], narrowed := true }
def AstSameUptoSaid : Prop := astSameUptoRow.holds Tryd.pinned (OpenSpec.upto astSameSpec)

/-- 'clewlaw06.AstPaths', WHERE WHAT IT READS IS OF BULK AT MOST 1048576: true; the input reads as it did. -/
def astPathsUptoRow : OpenClaim := { program := "ytpfnmjpccmobpaadoor", sum := "98487d8bb6de33503f60dbd9c35f76fe84448a91aa3249d215ec74c1e41033a9", func := "clew/clewlaw06.AstPaths", spec := "astPaths", unfollowed := true, recurses := true, named := ["clew/ast.rules"], apart := false, laid := [("clew/ast.rules", laid_clew_ast_rules)], narrowed := true }
def AstPathsUptoSaid : Prop := astPathsUptoRow.holds Tryd.pinned (OpenSpec.upto astPathsSpec)

/-- 'clewlaw34.MarkLines', WHERE WHAT IT READS IS OF BULK AT MOST 1048576: true; the input reads as it did. -/
def markLinesUptoRow : OpenClaim := { program := "ytpfnmjpccmobpaadoor", sum := "98487d8bb6de33503f60dbd9c35f76fe84448a91aa3249d215ec74c1e41033a9", func := "clew/clewlaw34.MarkLines", spec := "markLines", inPlace := ["internal/abi.NoEscape", "internal/bytealg.MakeNoZero", "internal/bytealg.IndexByteString", "internal/bytealg.IndexString"], unfollowed := true, recurses := true, named := ["unicode/utf8.first", "unicode/utf8.acceptRanges", "internal/bytealg.MaxLen"], apart := false, laid := [("unicode/utf8.acceptRanges", laid_unicode_utf8_acceptRanges), ("unicode/utf8.first", laid_unicode_utf8_first)], narrowed := true }
def MarkLinesUptoSaid : Prop := markLinesUptoRow.holds Tryd.pinned (OpenSpec.upto markLinesSpec)

/-- 'clewlaw34.MarkWindows', WHERE WHAT IT READS IS OF BULK AT MOST 1048576: true; the input reads as it did. -/
def markWindowsUptoRow : OpenClaim := { program := "ytpfnmjpccmobpaadoor", sum := "98487d8bb6de33503f60dbd9c35f76fe84448a91aa3249d215ec74c1e41033a9", func := "clew/clewlaw34.MarkWindows", spec := "markWindows", inPlace := ["internal/abi.NoEscape", "internal/bytealg.MakeNoZero", "internal/bytealg.IndexByteString", "internal/bytealg.IndexString"], unfollowed := true, recurses := true, named := ["unicode/utf8.first", "unicode/utf8.acceptRanges", "internal/bytealg.MaxLen"], apart := false, laid := [("unicode/utf8.acceptRanges", laid_unicode_utf8_acceptRanges), ("unicode/utf8.first", laid_unicode_utf8_first)], narrowed := true }
def MarkWindowsUptoSaid : Prop := markWindowsUptoRow.holds Tryd.pinned (OpenSpec.upto markWindowsSpec)

/-- 'clewlaw26.CmdBlanks', WHERE WHAT IT READS IS OF BULK AT MOST 1048576: true; the input reads as it did. -/
def cmdBlanksUptoRow : OpenClaim := { program := "ytpfnmjpccmobpaadoor", sum := "98487d8bb6de33503f60dbd9c35f76fe84448a91aa3249d215ec74c1e41033a9", func := "clew/clewlaw26.CmdBlanks", spec := "cmdBlanks", unfollowed := true, recurses := true, named := ["strconv.ErrSyntax", "strconv.ErrRange", "internal/strconv.uint64pow10", "math/bits.deBruijn32tab", "math/bits.deBruijn64tab"], apart := false, laid := [("math/bits.deBruijn32tab", laid_math_bits_deBruijn32tab), ("math/bits.deBruijn64tab", laid_math_bits_deBruijn64tab), ("internal/strconv.uint64pow10", laid_internal_strconv_uint64pow10), ("strconv.ErrRange", laid_strconv_ErrRange), ("strconv.ErrSyntax", laid_strconv_ErrSyntax)], narrowed := true }
def CmdBlanksUptoSaid : Prop := cmdBlanksUptoRow.holds Tryd.pinned (OpenSpec.upto cmdBlanksSpec)

/-- 'clewlaw26.CmdNames', WHERE WHAT IT READS IS OF BULK AT MOST 1048576: true; the input reads as it did. -/
def cmdNamesUptoRow : OpenClaim := { program := "ytpfnmjpccmobpaadoor", sum := "98487d8bb6de33503f60dbd9c35f76fe84448a91aa3249d215ec74c1e41033a9", func := "clew/clewlaw26.CmdNames", spec := "cmdNames", unfollowed := true, recurses := true, named := ["strconv.ErrSyntax", "strconv.ErrRange", "internal/strconv.uint64pow10", "math/bits.deBruijn32tab", "math/bits.deBruijn64tab"], apart := false, laid := [("math/bits.deBruijn32tab", laid_math_bits_deBruijn32tab), ("math/bits.deBruijn64tab", laid_math_bits_deBruijn64tab), ("internal/strconv.uint64pow10", laid_internal_strconv_uint64pow10), ("strconv.ErrRange", laid_strconv_ErrRange), ("strconv.ErrSyntax", laid_strconv_ErrSyntax)], narrowed := true }
def CmdNamesUptoSaid : Prop := cmdNamesUptoRow.holds Tryd.pinned (OpenSpec.upto cmdNamesSpec)

/-- 'clewlaw26.CmdReads', WHERE WHAT IT READS IS OF BULK AT MOST 1048576: true; the input reads as it did. -/
def cmdReadsUptoRow : OpenClaim := { program := "ytpfnmjpccmobpaadoor", sum := "98487d8bb6de33503f60dbd9c35f76fe84448a91aa3249d215ec74c1e41033a9", func := "clew/clewlaw26.CmdReads", spec := "cmdReads", unfollowed := true, recurses := true, named := ["strconv.ErrSyntax", "strconv.ErrRange", "internal/strconv.uint64pow10", "math/bits.deBruijn32tab", "math/bits.deBruijn64tab"], apart := false, laid := [("math/bits.deBruijn32tab", laid_math_bits_deBruijn32tab), ("math/bits.deBruijn64tab", laid_math_bits_deBruijn64tab), ("internal/strconv.uint64pow10", laid_internal_strconv_uint64pow10), ("strconv.ErrRange", laid_strconv_ErrRange), ("strconv.ErrSyntax", laid_strconv_ErrSyntax)], narrowed := true }
def CmdReadsUptoSaid : Prop := cmdReadsUptoRow.holds Tryd.pinned (OpenSpec.upto cmdReadsSpec)

/-- 'clewlaw26.CmdTexts', WHERE WHAT IT READS IS OF BULK AT MOST 1048576: true; the input reads as it did. -/
def cmdTextsUptoRow : OpenClaim := { program := "ytpfnmjpccmobpaadoor", sum := "98487d8bb6de33503f60dbd9c35f76fe84448a91aa3249d215ec74c1e41033a9", func := "clew/clewlaw26.CmdTexts", spec := "cmdTexts", unfollowed := true, recurses := true, named := ["strconv.ErrSyntax", "strconv.ErrRange", "internal/strconv.uint64pow10", "math/bits.deBruijn32tab", "math/bits.deBruijn64tab"], apart := false, laid := [("math/bits.deBruijn32tab", laid_math_bits_deBruijn32tab), ("math/bits.deBruijn64tab", laid_math_bits_deBruijn64tab), ("internal/strconv.uint64pow10", laid_internal_strconv_uint64pow10), ("strconv.ErrRange", laid_strconv_ErrRange), ("strconv.ErrSyntax", laid_strconv_ErrSyntax)], narrowed := true }
def CmdTextsUptoSaid : Prop := cmdTextsUptoRow.holds Tryd.pinned (OpenSpec.upto cmdTextsSpec)

/-- 'clewlaw11.CodeRight', WHERE WHAT IT READS IS OF BULK AT MOST 1048576: true; the input reads as it did. -/
def codeRightUptoRow : OpenClaim := { program := "ytpfnmjpccmobpaadoor", sum := "98487d8bb6de33503f60dbd9c35f76fe84448a91aa3249d215ec74c1e41033a9", func := "clew/clewlaw11.CodeRight", spec := "codeRight", inPlace := ["internal/abi.NoEscape", "internal/bytealg.MakeNoZero"], unfollowed := true, recurses := true, named := ["internal/strconv.uint64pow10", "math/bits.deBruijn32tab", "math/bits.deBruijn64tab"], apart := false, laid := [("math/bits.deBruijn32tab", laid_math_bits_deBruijn32tab), ("math/bits.deBruijn64tab", laid_math_bits_deBruijn64tab), ("internal/strconv.uint64pow10", laid_internal_strconv_uint64pow10)], narrowed := true }
def CodeRightUptoSaid : Prop := codeRightUptoRow.holds Tryd.pinned (OpenSpec.upto codeRightSpec)

/-- 'clewlaw11.CodeForward', WHERE WHAT IT READS IS OF BULK AT MOST 1048576: true; the input reads as it did. -/
def codeForwardUptoRow : OpenClaim := { program := "ytpfnmjpccmobpaadoor", sum := "98487d8bb6de33503f60dbd9c35f76fe84448a91aa3249d215ec74c1e41033a9", func := "clew/clewlaw11.CodeForward", spec := "codeForward", inPlace := ["internal/abi.NoEscape", "internal/bytealg.MakeNoZero"], unfollowed := true, recurses := true, named := ["internal/strconv.uint64pow10", "math/bits.deBruijn32tab", "math/bits.deBruijn64tab"], apart := false, laid := [("math/bits.deBruijn32tab", laid_math_bits_deBruijn32tab), ("math/bits.deBruijn64tab", laid_math_bits_deBruijn64tab), ("internal/strconv.uint64pow10", laid_internal_strconv_uint64pow10)], narrowed := true }
def CodeForwardUptoSaid : Prop := codeForwardUptoRow.holds Tryd.pinned (OpenSpec.upto codeForwardSpec)

/-- 'clewlaw11.CodeLines', WHERE WHAT IT READS IS OF BULK AT MOST 1048576: true; the input reads as it did. -/
def codeLinesUptoRow : OpenClaim := { program := "ytpfnmjpccmobpaadoor", sum := "98487d8bb6de33503f60dbd9c35f76fe84448a91aa3249d215ec74c1e41033a9", func := "clew/clewlaw11.CodeLines", spec := "codeLines", inPlace := ["internal/abi.NoEscape", "internal/bytealg.MakeNoZero"], unfollowed := true, recurses := true, named := ["internal/strconv.uint64pow10", "math/bits.deBruijn32tab", "math/bits.deBruijn64tab"], apart := false, laid := [("math/bits.deBruijn32tab", laid_math_bits_deBruijn32tab), ("math/bits.deBruijn64tab", laid_math_bits_deBruijn64tab), ("internal/strconv.uint64pow10", laid_internal_strconv_uint64pow10)], narrowed := true }
def CodeLinesUptoSaid : Prop := codeLinesUptoRow.holds Tryd.pinned (OpenSpec.upto codeLinesSpec)

end Rows
end Go.Proofs.YtpfnmjpccmobpaaDoor
