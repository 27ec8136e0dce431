/-
  DERIVED. GIVEN WITH THE SEED: THE CARDS: each row of YtjgbhajaiifimaaDoorRows.lean that lists a variable, with what it lists TIED to the program's text (the seventh form; the later family's looks); each row that meets fmt, with fmt's text TOLD by the authors' own Lean function (tested against real Go, not proved from fmt's source: count such statements apart). THE CARD IS WHAT COUNTS. Prove the row's statement (the work); the ties are given (YtjgbhajaiifimaaDoorTie.lean); close each card by the builder's one call (the guide's Derived/Test/ToyasCard.lean, 'card_holds'). Laid BY PROGRAM, IN A SANDBOX (cutbox-door.mjs). By AI agents, Wed Nov 11 2026. No macro, syntax, notation, axiom, sorry.
-/
import Derived.Test.YtjgbhajaiifimaaDoorRows
import GoSem.ClaimSeven
namespace Go.Proofs.YtjgbhajaiifimaaDoor
namespace Rows

/-- THE TIED CARD OF 'clewlaw01.SymAt'. -/
def symAtCard : Claim7 := { stood := { row := symAtRow, standIns := [], harness := (true, "d43c046f1d2393c469aaa5b298819a82bca005cdf11545719a3292ff317c90c9"), looks := false }, kinds := [], alts := [], laidByText := true, laidKinds := [.data, .pinned], laidTests := true, laidLooks := .later }
def SymAtCardSaid : Prop := Claim7.holds Tryd.pinned (.plain (OpenSpec.ofChange symAtSpec)) symAtCard

/-- THE TIED CARD OF 'clewlaw01.SymEach'. -/
def symEachCard : Claim7 := { stood := { row := symEachRow, standIns := [], harness := (true, "d43c046f1d2393c469aaa5b298819a82bca005cdf11545719a3292ff317c90c9"), looks := false }, kinds := [], alts := [], laidByText := true, laidKinds := [.data, .pinned], laidTests := true, laidLooks := .later }
def SymEachCardSaid : Prop := Claim7.holds Tryd.pinned (.plain (OpenSpec.ofChange symEachSpec)) symEachCard

/-- THE TIED CARD OF 'clewlaw01.SymParted'. -/
def symPartedCard : Claim7 := { stood := { row := symPartedRow, standIns := [], harness := (true, "d43c046f1d2393c469aaa5b298819a82bca005cdf11545719a3292ff317c90c9"), looks := false }, kinds := [], alts := [], laidByText := true, laidKinds := [.data, .pinned], laidTests := true, laidLooks := .later }
def SymPartedCardSaid : Prop := Claim7.holds Tryd.pinned (.plain (OpenSpec.ofChange symPartedSpec)) symPartedCard

/-- THE TIED CARD OF 'clewlaw01.SymAll'. -/
def symAllCard : Claim7 := { stood := { row := symAllRow, standIns := [], harness := (true, "d43c046f1d2393c469aaa5b298819a82bca005cdf11545719a3292ff317c90c9"), looks := false }, kinds := [], alts := [], laidByText := true, laidKinds := [.data, .pinned], laidTests := true, laidLooks := .later }
def SymAllCardSaid : Prop := Claim7.holds Tryd.pinned (.plain (OpenSpec.ofChange symAllSpec)) symAllCard

/-- THE TIED CARD OF 'clewlaw01.SymPuts'. -/
def symPutsCard : Claim7 := { stood := { row := symPutsRow, standIns := [], harness := (true, "d43c046f1d2393c469aaa5b298819a82bca005cdf11545719a3292ff317c90c9"), looks := false }, kinds := [], alts := [], laidByText := true, laidKinds := [.data, .pinned], laidTests := true, laidLooks := .later }
def SymPutsCardSaid : Prop := Claim7.holds Tryd.pinned (.plain (OpenSpec.ofChange symPutsSpec)) symPutsCard

/-- THE TIED CARD OF 'clewlaw01.SymBack'. -/
def symBackCard : Claim7 := { stood := { row := symBackRow, standIns := [], harness := (true, "d43c046f1d2393c469aaa5b298819a82bca005cdf11545719a3292ff317c90c9"), looks := false }, kinds := [], alts := [], laidByText := true, laidKinds := [.data, .pinned], laidTests := true, laidLooks := .later }
def SymBackCardSaid : Prop := Claim7.holds Tryd.pinned (.plain (OpenSpec.ofChange symBackSpec)) symBackCard

/-- THE TIED CARD OF 'clewlaw01.SymBytes'. -/
def symBytesCard : Claim7 := { stood := { row := symBytesRow, standIns := [], harness := (true, "d43c046f1d2393c469aaa5b298819a82bca005cdf11545719a3292ff317c90c9"), looks := false }, kinds := [], alts := [], laidByText := true, laidKinds := [.data, .pinned], laidTests := true, laidLooks := .later }
def SymBytesCardSaid : Prop := Claim7.holds Tryd.pinned (.plain (OpenSpec.ofChange symBytesSpec)) symBytesCard

/-- THE TIED CARD OF 'clewlaw13.TextHolds'. -/
def textHoldsCard : Claim7 := { stood := { row := textHoldsRow, standIns := [], harness := (true, "d43c046f1d2393c469aaa5b298819a82bca005cdf11545719a3292ff317c90c9"), looks := false }, kinds := [], alts := [], laidByText := true, laidKinds := [.data, .pinned], laidTests := true, laidLooks := .later }
def TextHoldsCardSaid : Prop := Claim7.holds Tryd.pinned (.plain (OpenSpec.ofChange textHoldsSpec)) textHoldsCard

/-- THE TIED CARD OF 'clewlaw13.TextAgain'. -/
def textAgainCard : Claim7 := { stood := { row := textAgainRow, standIns := [], harness := (true, "d43c046f1d2393c469aaa5b298819a82bca005cdf11545719a3292ff317c90c9"), looks := false }, kinds := [], alts := [], laidByText := true, laidKinds := [.data, .pinned], laidTests := true, laidLooks := .later }
def TextAgainCardSaid : Prop := Claim7.holds Tryd.pinned (.plain (OpenSpec.ofChange textAgainSpec)) textAgainCard

/-- THE TIED CARD OF 'clewlaw13.TextLong'. -/
def textLongCard : Claim7 := { stood := { row := textLongRow, standIns := [], harness := (true, "d43c046f1d2393c469aaa5b298819a82bca005cdf11545719a3292ff317c90c9"), looks := false }, kinds := [], alts := [], laidByText := true, laidKinds := [.data, .pinned], laidTests := true, laidLooks := .later }
def TextLongCardSaid : Prop := Claim7.holds Tryd.pinned (.plain (OpenSpec.ofChange textLongSpec)) textLongCard

/-- THE TIED CARD OF 'clewlaw13.TextIn'. -/
def textInCard : Claim7 := { stood := { row := textInRow, standIns := [], harness := (true, "d43c046f1d2393c469aaa5b298819a82bca005cdf11545719a3292ff317c90c9"), looks := false }, kinds := [], alts := [], laidByText := true, laidKinds := [.data, .pinned], laidTests := true, laidLooks := .later }
def TextInCardSaid : Prop := Claim7.holds Tryd.pinned (.plain (OpenSpec.ofChange textInSpec)) textInCard

/-- THE TIED CARD OF 'clewlaw13.TextSymbols'. -/
def textSymbolsCard : Claim7 := { stood := { row := textSymbolsRow, standIns := [], harness := (true, "d43c046f1d2393c469aaa5b298819a82bca005cdf11545719a3292ff317c90c9"), looks := false }, kinds := [], alts := [], laidByText := true, laidKinds := [.data, .pinned], laidTests := true, laidLooks := .later }
def TextSymbolsCardSaid : Prop := Claim7.holds Tryd.pinned (.plain (OpenSpec.ofChange textSymbolsSpec)) textSymbolsCard

/-- THE SECOND FORM's CARD OF 'clewlaw01.SymAt'. -/
def symAtUptoCard : Claim7 := { stood := { row := symAtUptoRow, standIns := [], harness := (true, "d43c046f1d2393c469aaa5b298819a82bca005cdf11545719a3292ff317c90c9"), looks := false }, kinds := [], alts := [], laidByText := true, laidKinds := [.data, .pinned], laidTests := true, laidLooks := .later }
def SymAtUptoCardSaid : Prop := Claim7.holds Tryd.pinned (.plain (OpenSpec.upto symAtSpec)) symAtUptoCard

/-- THE SECOND FORM's CARD OF 'clewlaw01.SymEach'. -/
def symEachUptoCard : Claim7 := { stood := { row := symEachUptoRow, standIns := [], harness := (true, "d43c046f1d2393c469aaa5b298819a82bca005cdf11545719a3292ff317c90c9"), looks := false }, kinds := [], alts := [], laidByText := true, laidKinds := [.data, .pinned], laidTests := true, laidLooks := .later }
def SymEachUptoCardSaid : Prop := Claim7.holds Tryd.pinned (.plain (OpenSpec.upto symEachSpec)) symEachUptoCard

/-- THE SECOND FORM's CARD OF 'clewlaw01.SymParted'. -/
def symPartedUptoCard : Claim7 := { stood := { row := symPartedUptoRow, standIns := [], harness := (true, "d43c046f1d2393c469aaa5b298819a82bca005cdf11545719a3292ff317c90c9"), looks := false }, kinds := [], alts := [], laidByText := true, laidKinds := [.data, .pinned], laidTests := true, laidLooks := .later }
def SymPartedUptoCardSaid : Prop := Claim7.holds Tryd.pinned (.plain (OpenSpec.upto symPartedSpec)) symPartedUptoCard

/-- THE SECOND FORM's CARD OF 'clewlaw01.SymAll'. -/
def symAllUptoCard : Claim7 := { stood := { row := symAllUptoRow, standIns := [], harness := (true, "d43c046f1d2393c469aaa5b298819a82bca005cdf11545719a3292ff317c90c9"), looks := false }, kinds := [], alts := [], laidByText := true, laidKinds := [.data, .pinned], laidTests := true, laidLooks := .later }
def SymAllUptoCardSaid : Prop := Claim7.holds Tryd.pinned (.plain (OpenSpec.upto symAllSpec)) symAllUptoCard

/-- THE SECOND FORM's CARD OF 'clewlaw01.SymPuts'. -/
def symPutsUptoCard : Claim7 := { stood := { row := symPutsUptoRow, standIns := [], harness := (true, "d43c046f1d2393c469aaa5b298819a82bca005cdf11545719a3292ff317c90c9"), looks := false }, kinds := [], alts := [], laidByText := true, laidKinds := [.data, .pinned], laidTests := true, laidLooks := .later }
def SymPutsUptoCardSaid : Prop := Claim7.holds Tryd.pinned (.plain (OpenSpec.upto symPutsSpec)) symPutsUptoCard

/-- THE SECOND FORM's CARD OF 'clewlaw01.SymBack'. -/
def symBackUptoCard : Claim7 := { stood := { row := symBackUptoRow, standIns := [], harness := (true, "d43c046f1d2393c469aaa5b298819a82bca005cdf11545719a3292ff317c90c9"), looks := false }, kinds := [], alts := [], laidByText := true, laidKinds := [.data, .pinned], laidTests := true, laidLooks := .later }
def SymBackUptoCardSaid : Prop := Claim7.holds Tryd.pinned (.plain (OpenSpec.upto symBackSpec)) symBackUptoCard

/-- THE SECOND FORM's CARD OF 'clewlaw01.SymBytes'. -/
def symBytesUptoCard : Claim7 := { stood := { row := symBytesUptoRow, standIns := [], harness := (true, "d43c046f1d2393c469aaa5b298819a82bca005cdf11545719a3292ff317c90c9"), looks := false }, kinds := [], alts := [], laidByText := true, laidKinds := [.data, .pinned], laidTests := true, laidLooks := .later }
def SymBytesUptoCardSaid : Prop := Claim7.holds Tryd.pinned (.plain (OpenSpec.upto symBytesSpec)) symBytesUptoCard

/-- THE SECOND FORM's CARD OF 'clewlaw13.TextHolds'. -/
def textHoldsUptoCard : Claim7 := { stood := { row := textHoldsUptoRow, standIns := [], harness := (true, "d43c046f1d2393c469aaa5b298819a82bca005cdf11545719a3292ff317c90c9"), looks := false }, kinds := [], alts := [], laidByText := true, laidKinds := [.data, .pinned], laidTests := true, laidLooks := .later }
def TextHoldsUptoCardSaid : Prop := Claim7.holds Tryd.pinned (.plain (OpenSpec.upto textHoldsSpec)) textHoldsUptoCard

/-- THE SECOND FORM's CARD OF 'clewlaw13.TextAgain'. -/
def textAgainUptoCard : Claim7 := { stood := { row := textAgainUptoRow, standIns := [], harness := (true, "d43c046f1d2393c469aaa5b298819a82bca005cdf11545719a3292ff317c90c9"), looks := false }, kinds := [], alts := [], laidByText := true, laidKinds := [.data, .pinned], laidTests := true, laidLooks := .later }
def TextAgainUptoCardSaid : Prop := Claim7.holds Tryd.pinned (.plain (OpenSpec.upto textAgainSpec)) textAgainUptoCard

/-- THE SECOND FORM's CARD OF 'clewlaw13.TextLong'. -/
def textLongUptoCard : Claim7 := { stood := { row := textLongUptoRow, standIns := [], harness := (true, "d43c046f1d2393c469aaa5b298819a82bca005cdf11545719a3292ff317c90c9"), looks := false }, kinds := [], alts := [], laidByText := true, laidKinds := [.data, .pinned], laidTests := true, laidLooks := .later }
def TextLongUptoCardSaid : Prop := Claim7.holds Tryd.pinned (.plain (OpenSpec.upto textLongSpec)) textLongUptoCard

/-- THE SECOND FORM's CARD OF 'clewlaw13.TextIn'. -/
def textInUptoCard : Claim7 := { stood := { row := textInUptoRow, standIns := [], harness := (true, "d43c046f1d2393c469aaa5b298819a82bca005cdf11545719a3292ff317c90c9"), looks := false }, kinds := [], alts := [], laidByText := true, laidKinds := [.data, .pinned], laidTests := true, laidLooks := .later }
def TextInUptoCardSaid : Prop := Claim7.holds Tryd.pinned (.plain (OpenSpec.upto textInSpec)) textInUptoCard

/-- THE SECOND FORM's CARD OF 'clewlaw13.TextSymbols'. -/
def textSymbolsUptoCard : Claim7 := { stood := { row := textSymbolsUptoRow, standIns := [], harness := (true, "d43c046f1d2393c469aaa5b298819a82bca005cdf11545719a3292ff317c90c9"), looks := false }, kinds := [], alts := [], laidByText := true, laidKinds := [.data, .pinned], laidTests := true, laidLooks := .later }
def TextSymbolsUptoCardSaid : Prop := Claim7.holds Tryd.pinned (.plain (OpenSpec.upto textSymbolsSpec)) textSymbolsUptoCard
end Rows
end Go.Proofs.YtjgbhajaiifimaaDoor
