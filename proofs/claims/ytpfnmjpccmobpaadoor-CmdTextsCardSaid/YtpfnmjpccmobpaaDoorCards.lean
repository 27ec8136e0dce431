/-
  DERIVED. GIVEN WITH THE SEED: THE CARDS: each row of YtpfnmjpccmobpaaDoorRows.lean that lists a variable, with what it lists TIED to the program's text (the seventh form; the later family's looks); each row that meets fmt, with fmt's text TOLD by the authors' own Lean function (tested against real Go, not proved from fmt's source: count such statements apart). THE CARD IS WHAT COUNTS. Prove the row's statement (the work); the ties are given (YtpfnmjpccmobpaaDoorTie.lean); close each card by the builder's one call (the guide's Derived/Test/ToyasCard.lean, 'card_holds'). Laid BY PROGRAM, IN A SANDBOX (cutbox-door.mjs). By AI agents, Wed Nov 11 2026. No macro, syntax, notation, axiom, sorry.
-/
import Derived.Test.YtpfnmjpccmobpaaDoorRows
import GoSem.ClaimSeven
namespace Go.Proofs.YtpfnmjpccmobpaaDoor
namespace Rows

/-- THE TIED CARD OF 'clewlaw22.PointTexts'. -/
def pointTextsCard : Claim7 := { stood := { row := pointTextsRow, standIns := [], harness := (true, "27ef8aff38bdce17bfd6e2055c6125615bf3224bd2f039a884aa449991aa9023"), looks := true }, kinds := [], alts := [], laidByText := true, laidKinds := [.data, .data, .data], laidTests := true, laidLooks := .later }
def PointTextsCardSaid : Prop := Claim7.holds Tryd.pinned (.plain (OpenSpec.ofChange pointTextsSpec)) pointTextsCard

/-- THE TIED CARD OF 'clewlaw22.PointHolds'. -/
def pointHoldsCard : Claim7 := { stood := { row := pointHoldsRow, standIns := [], harness := (true, "27ef8aff38bdce17bfd6e2055c6125615bf3224bd2f039a884aa449991aa9023"), looks := true }, kinds := [], alts := [], laidByText := true, laidKinds := [.data, .data, .data], laidTests := true, laidLooks := .later }
def PointHoldsCardSaid : Prop := Claim7.holds Tryd.pinned (.plain (OpenSpec.ofChange pointHoldsSpec)) pointHoldsCard

/-- THE TIED CARD OF 'clewlaw22.PointRight'. -/
def pointRightCard : Claim7 := { stood := { row := pointRightRow, standIns := [], harness := (true, "27ef8aff38bdce17bfd6e2055c6125615bf3224bd2f039a884aa449991aa9023"), looks := true }, kinds := [], alts := [], laidByText := true, laidKinds := [.data, .data, .data], laidTests := true, laidLooks := .later }
def PointRightCardSaid : Prop := Claim7.holds Tryd.pinned (.plain (OpenSpec.ofChange pointRightSpec)) pointRightCard

/-- THE TIED CARD OF 'clewlaw06.AstParts'. -/
def astPartsCard : Claim7 := { stood := { row := astPartsRow, standIns := [], harness := (true, "27ef8aff38bdce17bfd6e2055c6125615bf3224bd2f039a884aa449991aa9023"), looks := true }, kinds := [], alts := [], laidByText := true, laidKinds := [.data], laidTests := true, laidLooks := .later }
def AstPartsCardSaid : Prop := Claim7.holds Tryd.pinned (.plain (OpenSpec.ofChange astPartsSpec)) astPartsCard

/-- THE TIED CARD OF 'clewlaw06.AstSame'. -/
def astSameCard : Claim7 := { stood := { row := astSameRow, standIns := [], harness := (true, "27ef8aff38bdce17bfd6e2055c6125615bf3224bd2f039a884aa449991aa9023"), looks := true }, kinds := [], alts := [], laidByText := true, laidKinds := [.data], laidTests := true, laidLooks := .later }
def AstSameCardSaid : Prop := Claim7.holds Tryd.pinned (.plain (OpenSpec.ofChange astSameSpec)) astSameCard

/-- THE TIED CARD OF 'clewlaw06.AstPaths'. -/
def astPathsCard : Claim7 := { stood := { row := astPathsRow, standIns := [], harness := (true, "27ef8aff38bdce17bfd6e2055c6125615bf3224bd2f039a884aa449991aa9023"), looks := true }, kinds := [], alts := [], laidByText := true, laidKinds := [.data], laidTests := true, laidLooks := .later }
def AstPathsCardSaid : Prop := Claim7.holds Tryd.pinned (.plain (OpenSpec.ofChange astPathsSpec)) astPathsCard

/-- THE TIED CARD OF 'clewlaw34.MarkLines'. -/
def markLinesCard : Claim7 := { stood := { row := markLinesRow, standIns := [], harness := (true, "27ef8aff38bdce17bfd6e2055c6125615bf3224bd2f039a884aa449991aa9023"), looks := true }, kinds := [], alts := [], laidByText := true, laidKinds := [.data, .pinned], laidTests := true, laidLooks := .later }
def MarkLinesCardSaid : Prop := Claim7.holds Tryd.pinned (.plain (OpenSpec.ofChange markLinesSpec)) markLinesCard

/-- THE TIED CARD OF 'clewlaw34.MarkWindows'. -/
def markWindowsCard : Claim7 := { stood := { row := markWindowsRow, standIns := [], harness := (true, "27ef8aff38bdce17bfd6e2055c6125615bf3224bd2f039a884aa449991aa9023"), looks := true }, kinds := [], alts := [], laidByText := true, laidKinds := [.data, .pinned], laidTests := true, laidLooks := .later }
def MarkWindowsCardSaid : Prop := Claim7.holds Tryd.pinned (.plain (OpenSpec.ofChange markWindowsSpec)) markWindowsCard

/-- THE TIED CARD OF 'clewlaw26.CmdBlanks'. -/
def cmdBlanksCard : Claim7 := { stood := { row := cmdBlanksRow, standIns := [], harness := (true, "27ef8aff38bdce17bfd6e2055c6125615bf3224bd2f039a884aa449991aa9023"), looks := true }, kinds := [], alts := [], laidByText := true, laidKinds := [.data, .data, .data, .sentinel, .sentinel], laidTests := true, laidLooks := .later }
def CmdBlanksCardSaid : Prop := Claim7.holds Tryd.pinned (.plain (OpenSpec.ofChange cmdBlanksSpec)) cmdBlanksCard

/-- THE TIED CARD OF 'clewlaw26.CmdNames'. -/
def cmdNamesCard : Claim7 := { stood := { row := cmdNamesRow, standIns := [], harness := (true, "27ef8aff38bdce17bfd6e2055c6125615bf3224bd2f039a884aa449991aa9023"), looks := true }, kinds := [], alts := [], laidByText := true, laidKinds := [.data, .data, .data, .sentinel, .sentinel], laidTests := true, laidLooks := .later }
def CmdNamesCardSaid : Prop := Claim7.holds Tryd.pinned (.plain (OpenSpec.ofChange cmdNamesSpec)) cmdNamesCard

/-- THE TIED CARD OF 'clewlaw26.CmdReads'. -/
def cmdReadsCard : Claim7 := { stood := { row := cmdReadsRow, standIns := [], harness := (true, "27ef8aff38bdce17bfd6e2055c6125615bf3224bd2f039a884aa449991aa9023"), looks := true }, kinds := [], alts := [], laidByText := true, laidKinds := [.data, .data, .data, .sentinel, .sentinel], laidTests := true, laidLooks := .later }
def CmdReadsCardSaid : Prop := Claim7.holds Tryd.pinned (.plain (OpenSpec.ofChange cmdReadsSpec)) cmdReadsCard

/-- THE TIED CARD OF 'clewlaw26.CmdTexts'. -/
def cmdTextsCard : Claim7 := { stood := { row := cmdTextsRow, standIns := [], harness := (true, "27ef8aff38bdce17bfd6e2055c6125615bf3224bd2f039a884aa449991aa9023"), looks := true }, kinds := [], alts := [], laidByText := true, laidKinds := [.data, .data, .data, .sentinel, .sentinel], laidTests := true, laidLooks := .later }
def CmdTextsCardSaid : Prop := Claim7.holds Tryd.pinned (.plain (OpenSpec.ofChange cmdTextsSpec)) cmdTextsCard

/-- THE TIED CARD OF 'clewlaw11.CodeRight'. -/
def codeRightCard : Claim7 := { stood := { row := codeRightRow, standIns := [], harness := (true, "27ef8aff38bdce17bfd6e2055c6125615bf3224bd2f039a884aa449991aa9023"), looks := true }, kinds := [], alts := [], laidByText := true, laidKinds := [.data, .data, .data], laidTests := true, laidLooks := .later }
def CodeRightCardSaid : Prop := Claim7.holds Tryd.pinned (.plain (OpenSpec.ofChange codeRightSpec)) codeRightCard

/-- THE TIED CARD OF 'clewlaw11.CodeForward'. -/
def codeForwardCard : Claim7 := { stood := { row := codeForwardRow, standIns := [], harness := (true, "27ef8aff38bdce17bfd6e2055c6125615bf3224bd2f039a884aa449991aa9023"), looks := true }, kinds := [], alts := [], laidByText := true, laidKinds := [.data, .data, .data], laidTests := true, laidLooks := .later }
def CodeForwardCardSaid : Prop := Claim7.holds Tryd.pinned (.plain (OpenSpec.ofChange codeForwardSpec)) codeForwardCard

/-- THE TIED CARD OF 'clewlaw11.CodeLines'. -/
def codeLinesCard : Claim7 := { stood := { row := codeLinesRow, standIns := [], harness := (true, "27ef8aff38bdce17bfd6e2055c6125615bf3224bd2f039a884aa449991aa9023"), looks := true }, kinds := [], alts := [], laidByText := true, laidKinds := [.data, .data, .data], laidTests := true, laidLooks := .later }
def CodeLinesCardSaid : Prop := Claim7.holds Tryd.pinned (.plain (OpenSpec.ofChange codeLinesSpec)) codeLinesCard

/-- THE SECOND FORM's CARD OF 'clewlaw22.PointTexts'. -/
def pointTextsUptoCard : Claim7 := { stood := { row := pointTextsUptoRow, standIns := [], harness := (true, "27ef8aff38bdce17bfd6e2055c6125615bf3224bd2f039a884aa449991aa9023"), looks := true }, kinds := [], alts := [], laidByText := true, laidKinds := [.data, .data, .data], laidTests := true, laidLooks := .later }
def PointTextsUptoCardSaid : Prop := Claim7.holds Tryd.pinned (.plain (OpenSpec.upto pointTextsSpec)) pointTextsUptoCard

/-- THE SECOND FORM's CARD OF 'clewlaw22.PointHolds'. -/
def pointHoldsUptoCard : Claim7 := { stood := { row := pointHoldsUptoRow, standIns := [], harness := (true, "27ef8aff38bdce17bfd6e2055c6125615bf3224bd2f039a884aa449991aa9023"), looks := true }, kinds := [], alts := [], laidByText := true, laidKinds := [.data, .data, .data], laidTests := true, laidLooks := .later }
def PointHoldsUptoCardSaid : Prop := Claim7.holds Tryd.pinned (.plain (OpenSpec.upto pointHoldsSpec)) pointHoldsUptoCard

/-- THE SECOND FORM's CARD OF 'clewlaw22.PointRight'. -/
def pointRightUptoCard : Claim7 := { stood := { row := pointRightUptoRow, standIns := [], harness := (true, "27ef8aff38bdce17bfd6e2055c6125615bf3224bd2f039a884aa449991aa9023"), looks := true }, kinds := [], alts := [], laidByText := true, laidKinds := [.data, .data, .data], laidTests := true, laidLooks := .later }
def PointRightUptoCardSaid : Prop := Claim7.holds Tryd.pinned (.plain (OpenSpec.upto pointRightSpec)) pointRightUptoCard

/-- THE SECOND FORM's CARD OF 'clewlaw06.AstParts'. -/
def astPartsUptoCard : Claim7 := { stood := { row := astPartsUptoRow, standIns := [], harness := (true, "27ef8aff38bdce17bfd6e2055c6125615bf3224bd2f039a884aa449991aa9023"), looks := true }, kinds := [], alts := [], laidByText := true, laidKinds := [.data], laidTests := true, laidLooks := .later }
def AstPartsUptoCardSaid : Prop := Claim7.holds Tryd.pinned (.plain (OpenSpec.upto astPartsSpec)) astPartsUptoCard

/-- THE SECOND FORM's CARD OF 'clewlaw06.AstSame'. -/
def astSameUptoCard : Claim7 := { stood := { row := astSameUptoRow, standIns := [], harness := (true, "27ef8aff38bdce17bfd6e2055c6125615bf3224bd2f039a884aa449991aa9023"), looks := true }, kinds := [], alts := [], laidByText := true, laidKinds := [.data], laidTests := true, laidLooks := .later }
def AstSameUptoCardSaid : Prop := Claim7.holds Tryd.pinned (.plain (OpenSpec.upto astSameSpec)) astSameUptoCard

/-- THE SECOND FORM's CARD OF 'clewlaw06.AstPaths'. -/
def astPathsUptoCard : Claim7 := { stood := { row := astPathsUptoRow, standIns := [], harness := (true, "27ef8aff38bdce17bfd6e2055c6125615bf3224bd2f039a884aa449991aa9023"), looks := true }, kinds := [], alts := [], laidByText := true, laidKinds := [.data], laidTests := true, laidLooks := .later }
def AstPathsUptoCardSaid : Prop := Claim7.holds Tryd.pinned (.plain (OpenSpec.upto astPathsSpec)) astPathsUptoCard

/-- THE SECOND FORM's CARD OF 'clewlaw34.MarkLines'. -/
def markLinesUptoCard : Claim7 := { stood := { row := markLinesUptoRow, standIns := [], harness := (true, "27ef8aff38bdce17bfd6e2055c6125615bf3224bd2f039a884aa449991aa9023"), looks := true }, kinds := [], alts := [], laidByText := true, laidKinds := [.data, .pinned], laidTests := true, laidLooks := .later }
def MarkLinesUptoCardSaid : Prop := Claim7.holds Tryd.pinned (.plain (OpenSpec.upto markLinesSpec)) markLinesUptoCard

/-- THE SECOND FORM's CARD OF 'clewlaw34.MarkWindows'. -/
def markWindowsUptoCard : Claim7 := { stood := { row := markWindowsUptoRow, standIns := [], harness := (true, "27ef8aff38bdce17bfd6e2055c6125615bf3224bd2f039a884aa449991aa9023"), looks := true }, kinds := [], alts := [], laidByText := true, laidKinds := [.data, .pinned], laidTests := true, laidLooks := .later }
def MarkWindowsUptoCardSaid : Prop := Claim7.holds Tryd.pinned (.plain (OpenSpec.upto markWindowsSpec)) markWindowsUptoCard

/-- THE SECOND FORM's CARD OF 'clewlaw26.CmdBlanks'. -/
def cmdBlanksUptoCard : Claim7 := { stood := { row := cmdBlanksUptoRow, standIns := [], harness := (true, "27ef8aff38bdce17bfd6e2055c6125615bf3224bd2f039a884aa449991aa9023"), looks := true }, kinds := [], alts := [], laidByText := true, laidKinds := [.data, .data, .data, .sentinel, .sentinel], laidTests := true, laidLooks := .later }
def CmdBlanksUptoCardSaid : Prop := Claim7.holds Tryd.pinned (.plain (OpenSpec.upto cmdBlanksSpec)) cmdBlanksUptoCard

/-- THE SECOND FORM's CARD OF 'clewlaw26.CmdNames'. -/
def cmdNamesUptoCard : Claim7 := { stood := { row := cmdNamesUptoRow, standIns := [], harness := (true, "27ef8aff38bdce17bfd6e2055c6125615bf3224bd2f039a884aa449991aa9023"), looks := true }, kinds := [], alts := [], laidByText := true, laidKinds := [.data, .data, .data, .sentinel, .sentinel], laidTests := true, laidLooks := .later }
def CmdNamesUptoCardSaid : Prop := Claim7.holds Tryd.pinned (.plain (OpenSpec.upto cmdNamesSpec)) cmdNamesUptoCard

/-- THE SECOND FORM's CARD OF 'clewlaw26.CmdReads'. -/
def cmdReadsUptoCard : Claim7 := { stood := { row := cmdReadsUptoRow, standIns := [], harness := (true, "27ef8aff38bdce17bfd6e2055c6125615bf3224bd2f039a884aa449991aa9023"), looks := true }, kinds := [], alts := [], laidByText := true, laidKinds := [.data, .data, .data, .sentinel, .sentinel], laidTests := true, laidLooks := .later }
def CmdReadsUptoCardSaid : Prop := Claim7.holds Tryd.pinned (.plain (OpenSpec.upto cmdReadsSpec)) cmdReadsUptoCard

/-- THE SECOND FORM's CARD OF 'clewlaw26.CmdTexts'. -/
def cmdTextsUptoCard : Claim7 := { stood := { row := cmdTextsUptoRow, standIns := [], harness := (true, "27ef8aff38bdce17bfd6e2055c6125615bf3224bd2f039a884aa449991aa9023"), looks := true }, kinds := [], alts := [], laidByText := true, laidKinds := [.data, .data, .data, .sentinel, .sentinel], laidTests := true, laidLooks := .later }
def CmdTextsUptoCardSaid : Prop := Claim7.holds Tryd.pinned (.plain (OpenSpec.upto cmdTextsSpec)) cmdTextsUptoCard

/-- THE SECOND FORM's CARD OF 'clewlaw11.CodeRight'. -/
def codeRightUptoCard : Claim7 := { stood := { row := codeRightUptoRow, standIns := [], harness := (true, "27ef8aff38bdce17bfd6e2055c6125615bf3224bd2f039a884aa449991aa9023"), looks := true }, kinds := [], alts := [], laidByText := true, laidKinds := [.data, .data, .data], laidTests := true, laidLooks := .later }
def CodeRightUptoCardSaid : Prop := Claim7.holds Tryd.pinned (.plain (OpenSpec.upto codeRightSpec)) codeRightUptoCard

/-- THE SECOND FORM's CARD OF 'clewlaw11.CodeForward'. -/
def codeForwardUptoCard : Claim7 := { stood := { row := codeForwardUptoRow, standIns := [], harness := (true, "27ef8aff38bdce17bfd6e2055c6125615bf3224bd2f039a884aa449991aa9023"), looks := true }, kinds := [], alts := [], laidByText := true, laidKinds := [.data, .data, .data], laidTests := true, laidLooks := .later }
def CodeForwardUptoCardSaid : Prop := Claim7.holds Tryd.pinned (.plain (OpenSpec.upto codeForwardSpec)) codeForwardUptoCard

/-- THE SECOND FORM's CARD OF 'clewlaw11.CodeLines'. -/
def codeLinesUptoCard : Claim7 := { stood := { row := codeLinesUptoRow, standIns := [], harness := (true, "27ef8aff38bdce17bfd6e2055c6125615bf3224bd2f039a884aa449991aa9023"), looks := true }, kinds := [], alts := [], laidByText := true, laidKinds := [.data, .data, .data], laidTests := true, laidLooks := .later }
def CodeLinesUptoCardSaid : Prop := Claim7.holds Tryd.pinned (.plain (OpenSpec.upto codeLinesSpec)) codeLinesUptoCard
end Rows
end Go.Proofs.YtpfnmjpccmobpaaDoor
