/-
  DERIVED. GIVEN WITH THE SEED: THE CARDS: each row of YtlofoifcdmeopaaGreatDoorRows.lean that lists a variable, with what it lists TIED to the program's text (the seventh form; the later family's looks); each row that meets fmt, with fmt's text TOLD by the authors' own Lean function (tested against real Go, not proved from fmt's source: count such statements apart). THE CARD IS WHAT COUNTS. Prove the row's statement (the work); the ties are given (YtlofoifcdmeopaaGreatDoorTie.lean); close each card by the builder's one call (the guide's Derived/Test/ToyasCard.lean, 'card_holds'). Laid BY PROGRAM, IN A SANDBOX (cutbox-door.mjs). By AI agents, Wed Nov 11 2026. No macro, syntax, notation, axiom, sorry.
-/
import Derived.Test.YtlofoifcdmeopaaGreatDoorRows
import GoSem.ClaimSeven
namespace Go.Proofs.YtlofoifcdmeopaaGreatDoor
namespace Rows

/-- THE TIED CARD OF 'clewlaw35.OutlineTrees'. -/
def outlineTreesCard : Claim7 := { stood := { row := outlineTreesRow, standIns := [], harness := (true, "dab8aa7fcc337567dda3c4eee4e5e8bb10d8b9b5978496af5b8a05860e0594e0"), looks := false }, kinds := [], alts := [], laidByText := true, laidKinds := [.data, .data, .data, .data, .pinned], laidTests := true, laidLooks := .later }
def OutlineTreesCardSaid : Prop := Claim7.holds Tryz.pinned (.plain (OpenSpec.ofChange outlineTreesSpec)) outlineTreesCard

/-- THE TIED CARD OF 'clewlaw35.OutlinePatterns'. -/
def outlinePatternsCard : Claim7 := { stood := { row := outlinePatternsRow, standIns := [], harness := (true, "dab8aa7fcc337567dda3c4eee4e5e8bb10d8b9b5978496af5b8a05860e0594e0"), looks := false }, kinds := [], alts := [], laidByText := true, laidKinds := [.data, .data, .data, .data, .pinned], laidTests := true, laidLooks := .later }
def OutlinePatternsCardSaid : Prop := Claim7.holds Tryz.pinned (.plain (OpenSpec.ofChange outlinePatternsSpec)) outlinePatternsCard

/-- THE TIED CARD OF 'clewlaw08.ParseGroups'. -/
def parseGroupsCard : Claim7 := { stood := { row := parseGroupsRow, standIns := [], harness := (true, "dab8aa7fcc337567dda3c4eee4e5e8bb10d8b9b5978496af5b8a05860e0594e0"), looks := false }, kinds := [], alts := [], laidByText := true, laidKinds := [.data, .pinned], laidTests := true, laidLooks := .later }
def ParseGroupsCardSaid : Prop := Claim7.holds Tryz.pinned (.plain (OpenSpec.ofChange parseGroupsSpec)) parseGroupsCard

/-- THE TIED CARD OF 'clewlaw08.ParseNumbers'. -/
def parseNumbersCard : Claim7 := { stood := { row := parseNumbersRow, standIns := [], harness := (true, "dab8aa7fcc337567dda3c4eee4e5e8bb10d8b9b5978496af5b8a05860e0594e0"), looks := false }, kinds := [], alts := [], laidByText := true, laidKinds := [.data, .pinned], laidTests := true, laidLooks := .later }
def ParseNumbersCardSaid : Prop := Claim7.holds Tryz.pinned (.plain (OpenSpec.ofChange parseNumbersSpec)) parseNumbersCard

/-- THE TIED CARD OF 'clewlaw08.ParseWrapped'. -/
def parseWrappedCard : Claim7 := { stood := { row := parseWrappedRow, standIns := [], harness := (true, "dab8aa7fcc337567dda3c4eee4e5e8bb10d8b9b5978496af5b8a05860e0594e0"), looks := false }, kinds := [], alts := [], laidByText := true, laidKinds := [.data, .pinned], laidTests := true, laidLooks := .later }
def ParseWrappedCardSaid : Prop := Claim7.holds Tryz.pinned (.plain (OpenSpec.ofChange parseWrappedSpec)) parseWrappedCard

/-- THE TIED CARD OF 'clewlaw08.ParseRight'. -/
def parseRightCard : Claim7 := { stood := { row := parseRightRow, standIns := [], harness := (true, "dab8aa7fcc337567dda3c4eee4e5e8bb10d8b9b5978496af5b8a05860e0594e0"), looks := false }, kinds := [], alts := [], laidByText := true, laidKinds := [.data, .data, .pinned], laidTests := true, laidLooks := .later }
def ParseRightCardSaid : Prop := Claim7.holds Tryz.pinned (.plain (OpenSpec.ofChange parseRightSpec)) parseRightCard

/-- THE TIED CARD OF 'clewlaw09.WellWidths'. -/
def wellWidthsCard : Claim7 := { stood := { row := wellWidthsRow, standIns := [], harness := (true, "dab8aa7fcc337567dda3c4eee4e5e8bb10d8b9b5978496af5b8a05860e0594e0"), looks := false }, kinds := [], alts := [], laidByText := true, laidKinds := [.data, .pinned], laidTests := true, laidLooks := .later }
def WellWidthsCardSaid : Prop := Claim7.holds Tryz.pinned (.plain (OpenSpec.ofChange wellWidthsSpec)) wellWidthsCard

/-- THE TIED CARD OF 'clewlaw09.WellChecks'. -/
def wellChecksCard : Claim7 := { stood := { row := wellChecksRow, standIns := [], harness := (true, "dab8aa7fcc337567dda3c4eee4e5e8bb10d8b9b5978496af5b8a05860e0594e0"), looks := false }, kinds := [], alts := [], laidByText := true, laidKinds := [.data, .pinned], laidTests := true, laidLooks := .later }
def WellChecksCardSaid : Prop := Claim7.holds Tryz.pinned (.plain (OpenSpec.ofChange wellChecksSpec)) wellChecksCard

/-- THE TIED CARD OF 'clewlaw09.WellOrdered'. -/
def wellOrderedCard : Claim7 := { stood := { row := wellOrderedRow, standIns := [], harness := (true, "dab8aa7fcc337567dda3c4eee4e5e8bb10d8b9b5978496af5b8a05860e0594e0"), looks := false }, kinds := [], alts := [], laidByText := true, laidKinds := [.data, .pinned], laidTests := true, laidLooks := .later }
def WellOrderedCardSaid : Prop := Claim7.holds Tryz.pinned (.plain (OpenSpec.ofChange wellOrderedSpec)) wellOrderedCard

/-- THE TIED CARD OF 'clewlaw09.WellPatterns'. -/
def wellPatternsCard : Claim7 := { stood := { row := wellPatternsRow, standIns := [], harness := (true, "dab8aa7fcc337567dda3c4eee4e5e8bb10d8b9b5978496af5b8a05860e0594e0"), looks := false }, kinds := [], alts := [], laidByText := true, laidKinds := [.data, .pinned], laidTests := true, laidLooks := .later }
def WellPatternsCardSaid : Prop := Claim7.holds Tryz.pinned (.plain (OpenSpec.ofChange wellPatternsSpec)) wellPatternsCard

/-- THE TIED CARD OF 'clewlaw33.LintDoubts'. -/
def lintDoubtsCard : Claim7 := { stood := { row := lintDoubtsRow, standIns := [], harness := (true, "dab8aa7fcc337567dda3c4eee4e5e8bb10d8b9b5978496af5b8a05860e0594e0"), looks := false }, kinds := [], alts := [], laidByText := true, laidKinds := [.data, .pinned], laidTests := true, laidLooks := .later }
def LintDoubtsCardSaid : Prop := Claim7.holds Tryz.pinned (.plain (OpenSpec.ofChange lintDoubtsSpec)) lintDoubtsCard

/-- THE TIED CARD OF 'clewlaw33.LintTwice'. -/
def lintTwiceCard : Claim7 := { stood := { row := lintTwiceRow, standIns := [], harness := (true, "dab8aa7fcc337567dda3c4eee4e5e8bb10d8b9b5978496af5b8a05860e0594e0"), looks := false }, kinds := [], alts := [], laidByText := true, laidKinds := [.data, .pinned], laidTests := true, laidLooks := .later }
def LintTwiceCardSaid : Prop := Claim7.holds Tryz.pinned (.plain (OpenSpec.ofChange lintTwiceSpec)) lintTwiceCard

/-- THE TIED CARD OF 'clewlaw10.ShowSettles'. -/
def showSettlesCard : Claim7 := { stood := { row := showSettlesRow, standIns := [], harness := (true, "dab8aa7fcc337567dda3c4eee4e5e8bb10d8b9b5978496af5b8a05860e0594e0"), looks := false }, kinds := [], alts := [], laidByText := true, laidKinds := [.data, .data, .data, .data, .data, .data, .pinned], laidTests := true, laidLooks := .later }
def ShowSettlesCardSaid : Prop := Claim7.holds Tryz.pinned (.plain (OpenSpec.ofChange showSettlesSpec)) showSettlesCard

/-- THE TIED CARD OF 'clewlaw10.ShowQuotes'. -/
def showQuotesCard : Claim7 := { stood := { row := showQuotesRow, standIns := [], harness := (true, "dab8aa7fcc337567dda3c4eee4e5e8bb10d8b9b5978496af5b8a05860e0594e0"), looks := false }, kinds := [], alts := [], laidByText := true, laidKinds := [.data, .data, .data, .data, .data, .data, .pinned], laidTests := true, laidLooks := .later }
def ShowQuotesCardSaid : Prop := Claim7.holds Tryz.pinned (.plain (OpenSpec.ofChange showQuotesSpec)) showQuotesCard

/-- THE TIED CARD OF 'clewlaw10.ShowReads'. -/
def showReadsCard : Claim7 := { stood := { row := showReadsRow, standIns := [], harness := (true, "dab8aa7fcc337567dda3c4eee4e5e8bb10d8b9b5978496af5b8a05860e0594e0"), looks := false }, kinds := [], alts := [], laidByText := true, laidKinds := [.data, .data, .data, .data, .data, .data, .pinned], laidTests := true, laidLooks := .later }
def ShowReadsCardSaid : Prop := Claim7.holds Tryz.pinned (.plain (OpenSpec.ofChange showReadsSpec)) showReadsCard

/-- THE TIED CARD OF 'clewlaw33.LintLines'. -/
def lintLinesCard : Claim7 := { stood := { row := lintLinesRow, standIns := [], harness := (true, "dab8aa7fcc337567dda3c4eee4e5e8bb10d8b9b5978496af5b8a05860e0594e0"), looks := false }, kinds := [], alts := [], laidByText := true, laidKinds := [.data, .data, .data, .data, .pinned], laidTests := true, laidLooks := .later }
def LintLinesCardSaid : Prop := Claim7.holds Tryz.pinned (.plain (OpenSpec.ofChange lintLinesSpec)) lintLinesCard

/-- THE SECOND FORM's CARD OF 'clewlaw35.OutlineTrees'. -/
def outlineTreesUptoCard : Claim7 := { stood := { row := outlineTreesUptoRow, standIns := [], harness := (true, "dab8aa7fcc337567dda3c4eee4e5e8bb10d8b9b5978496af5b8a05860e0594e0"), looks := false }, kinds := [], alts := [], laidByText := true, laidKinds := [.data, .data, .data, .data, .pinned], laidTests := true, laidLooks := .later }
def OutlineTreesUptoCardSaid : Prop := Claim7.holds Tryz.pinned (.plain (OpenSpec.upto outlineTreesSpec)) outlineTreesUptoCard

/-- THE SECOND FORM's CARD OF 'clewlaw35.OutlinePatterns'. -/
def outlinePatternsUptoCard : Claim7 := { stood := { row := outlinePatternsUptoRow, standIns := [], harness := (true, "dab8aa7fcc337567dda3c4eee4e5e8bb10d8b9b5978496af5b8a05860e0594e0"), looks := false }, kinds := [], alts := [], laidByText := true, laidKinds := [.data, .data, .data, .data, .pinned], laidTests := true, laidLooks := .later }
def OutlinePatternsUptoCardSaid : Prop := Claim7.holds Tryz.pinned (.plain (OpenSpec.upto outlinePatternsSpec)) outlinePatternsUptoCard

/-- THE SECOND FORM's CARD OF 'clewlaw08.ParseGroups'. -/
def parseGroupsUptoCard : Claim7 := { stood := { row := parseGroupsUptoRow, standIns := [], harness := (true, "dab8aa7fcc337567dda3c4eee4e5e8bb10d8b9b5978496af5b8a05860e0594e0"), looks := false }, kinds := [], alts := [], laidByText := true, laidKinds := [.data, .pinned], laidTests := true, laidLooks := .later }
def ParseGroupsUptoCardSaid : Prop := Claim7.holds Tryz.pinned (.plain (OpenSpec.upto parseGroupsSpec)) parseGroupsUptoCard

/-- THE SECOND FORM's CARD OF 'clewlaw08.ParseNumbers'. -/
def parseNumbersUptoCard : Claim7 := { stood := { row := parseNumbersUptoRow, standIns := [], harness := (true, "dab8aa7fcc337567dda3c4eee4e5e8bb10d8b9b5978496af5b8a05860e0594e0"), looks := false }, kinds := [], alts := [], laidByText := true, laidKinds := [.data, .pinned], laidTests := true, laidLooks := .later }
def ParseNumbersUptoCardSaid : Prop := Claim7.holds Tryz.pinned (.plain (OpenSpec.upto parseNumbersSpec)) parseNumbersUptoCard

/-- THE SECOND FORM's CARD OF 'clewlaw08.ParseWrapped'. -/
def parseWrappedUptoCard : Claim7 := { stood := { row := parseWrappedUptoRow, standIns := [], harness := (true, "dab8aa7fcc337567dda3c4eee4e5e8bb10d8b9b5978496af5b8a05860e0594e0"), looks := false }, kinds := [], alts := [], laidByText := true, laidKinds := [.data, .pinned], laidTests := true, laidLooks := .later }
def ParseWrappedUptoCardSaid : Prop := Claim7.holds Tryz.pinned (.plain (OpenSpec.upto parseWrappedSpec)) parseWrappedUptoCard

/-- THE SECOND FORM's CARD OF 'clewlaw08.ParseRight'. -/
def parseRightUptoCard : Claim7 := { stood := { row := parseRightUptoRow, standIns := [], harness := (true, "dab8aa7fcc337567dda3c4eee4e5e8bb10d8b9b5978496af5b8a05860e0594e0"), looks := false }, kinds := [], alts := [], laidByText := true, laidKinds := [.data, .data, .pinned], laidTests := true, laidLooks := .later }
def ParseRightUptoCardSaid : Prop := Claim7.holds Tryz.pinned (.plain (OpenSpec.upto parseRightSpec)) parseRightUptoCard

/-- THE SECOND FORM's CARD OF 'clewlaw09.WellWidths'. -/
def wellWidthsUptoCard : Claim7 := { stood := { row := wellWidthsUptoRow, standIns := [], harness := (true, "dab8aa7fcc337567dda3c4eee4e5e8bb10d8b9b5978496af5b8a05860e0594e0"), looks := false }, kinds := [], alts := [], laidByText := true, laidKinds := [.data, .pinned], laidTests := true, laidLooks := .later }
def WellWidthsUptoCardSaid : Prop := Claim7.holds Tryz.pinned (.plain (OpenSpec.upto wellWidthsSpec)) wellWidthsUptoCard

/-- THE SECOND FORM's CARD OF 'clewlaw09.WellChecks'. -/
def wellChecksUptoCard : Claim7 := { stood := { row := wellChecksUptoRow, standIns := [], harness := (true, "dab8aa7fcc337567dda3c4eee4e5e8bb10d8b9b5978496af5b8a05860e0594e0"), looks := false }, kinds := [], alts := [], laidByText := true, laidKinds := [.data, .pinned], laidTests := true, laidLooks := .later }
def WellChecksUptoCardSaid : Prop := Claim7.holds Tryz.pinned (.plain (OpenSpec.upto wellChecksSpec)) wellChecksUptoCard

/-- THE SECOND FORM's CARD OF 'clewlaw09.WellOrdered'. -/
def wellOrderedUptoCard : Claim7 := { stood := { row := wellOrderedUptoRow, standIns := [], harness := (true, "dab8aa7fcc337567dda3c4eee4e5e8bb10d8b9b5978496af5b8a05860e0594e0"), looks := false }, kinds := [], alts := [], laidByText := true, laidKinds := [.data, .pinned], laidTests := true, laidLooks := .later }
def WellOrderedUptoCardSaid : Prop := Claim7.holds Tryz.pinned (.plain (OpenSpec.upto wellOrderedSpec)) wellOrderedUptoCard

/-- THE SECOND FORM's CARD OF 'clewlaw09.WellPatterns'. -/
def wellPatternsUptoCard : Claim7 := { stood := { row := wellPatternsUptoRow, standIns := [], harness := (true, "dab8aa7fcc337567dda3c4eee4e5e8bb10d8b9b5978496af5b8a05860e0594e0"), looks := false }, kinds := [], alts := [], laidByText := true, laidKinds := [.data, .pinned], laidTests := true, laidLooks := .later }
def WellPatternsUptoCardSaid : Prop := Claim7.holds Tryz.pinned (.plain (OpenSpec.upto wellPatternsSpec)) wellPatternsUptoCard

/-- THE SECOND FORM's CARD OF 'clewlaw33.LintDoubts'. -/
def lintDoubtsUptoCard : Claim7 := { stood := { row := lintDoubtsUptoRow, standIns := [], harness := (true, "dab8aa7fcc337567dda3c4eee4e5e8bb10d8b9b5978496af5b8a05860e0594e0"), looks := false }, kinds := [], alts := [], laidByText := true, laidKinds := [.data, .pinned], laidTests := true, laidLooks := .later }
def LintDoubtsUptoCardSaid : Prop := Claim7.holds Tryz.pinned (.plain (OpenSpec.upto lintDoubtsSpec)) lintDoubtsUptoCard

/-- THE SECOND FORM's CARD OF 'clewlaw33.LintTwice'. -/
def lintTwiceUptoCard : Claim7 := { stood := { row := lintTwiceUptoRow, standIns := [], harness := (true, "dab8aa7fcc337567dda3c4eee4e5e8bb10d8b9b5978496af5b8a05860e0594e0"), looks := false }, kinds := [], alts := [], laidByText := true, laidKinds := [.data, .pinned], laidTests := true, laidLooks := .later }
def LintTwiceUptoCardSaid : Prop := Claim7.holds Tryz.pinned (.plain (OpenSpec.upto lintTwiceSpec)) lintTwiceUptoCard

/-- THE SECOND FORM's CARD OF 'clewlaw10.ShowSettles'. -/
def showSettlesUptoCard : Claim7 := { stood := { row := showSettlesUptoRow, standIns := [], harness := (true, "dab8aa7fcc337567dda3c4eee4e5e8bb10d8b9b5978496af5b8a05860e0594e0"), looks := false }, kinds := [], alts := [], laidByText := true, laidKinds := [.data, .data, .data, .data, .data, .data, .pinned], laidTests := true, laidLooks := .later }
def ShowSettlesUptoCardSaid : Prop := Claim7.holds Tryz.pinned (.plain (OpenSpec.upto showSettlesSpec)) showSettlesUptoCard

/-- THE SECOND FORM's CARD OF 'clewlaw10.ShowQuotes'. -/
def showQuotesUptoCard : Claim7 := { stood := { row := showQuotesUptoRow, standIns := [], harness := (true, "dab8aa7fcc337567dda3c4eee4e5e8bb10d8b9b5978496af5b8a05860e0594e0"), looks := false }, kinds := [], alts := [], laidByText := true, laidKinds := [.data, .data, .data, .data, .data, .data, .pinned], laidTests := true, laidLooks := .later }
def ShowQuotesUptoCardSaid : Prop := Claim7.holds Tryz.pinned (.plain (OpenSpec.upto showQuotesSpec)) showQuotesUptoCard

/-- THE SECOND FORM's CARD OF 'clewlaw10.ShowReads'. -/
def showReadsUptoCard : Claim7 := { stood := { row := showReadsUptoRow, standIns := [], harness := (true, "dab8aa7fcc337567dda3c4eee4e5e8bb10d8b9b5978496af5b8a05860e0594e0"), looks := false }, kinds := [], alts := [], laidByText := true, laidKinds := [.data, .data, .data, .data, .data, .data, .pinned], laidTests := true, laidLooks := .later }
def ShowReadsUptoCardSaid : Prop := Claim7.holds Tryz.pinned (.plain (OpenSpec.upto showReadsSpec)) showReadsUptoCard

/-- THE SECOND FORM's CARD OF 'clewlaw33.LintLines'. -/
def lintLinesUptoCard : Claim7 := { stood := { row := lintLinesUptoRow, standIns := [], harness := (true, "dab8aa7fcc337567dda3c4eee4e5e8bb10d8b9b5978496af5b8a05860e0594e0"), looks := false }, kinds := [], alts := [], laidByText := true, laidKinds := [.data, .data, .data, .data, .pinned], laidTests := true, laidLooks := .later }
def LintLinesUptoCardSaid : Prop := Claim7.holds Tryz.pinned (.plain (OpenSpec.upto lintLinesSpec)) lintLinesUptoCard
end Rows
end Go.Proofs.YtlofoifcdmeopaaGreatDoor
