/-
  DERIVED. GIVEN WITH THE SEED: THE CARDS: each row of YtdihkhpgkgfnbaaDoorRows.lean that lists a variable, with what it lists TIED to the program's text (the seventh form; the later family's looks); each row that meets fmt, with fmt's text TOLD by the authors' own Lean function (tested against real Go, not proved from fmt's source: count such statements apart). THE CARD IS WHAT COUNTS. Prove the row's statement (the work); the ties are given (YtdihkhpgkgfnbaaDoorTie.lean); close each card by the builder's one call (the guide's Derived/Test/ToyasCard.lean, 'card_holds'). Laid BY PROGRAM, IN A SANDBOX (cutbox-door.mjs). By AI agents, Wed Nov 11 2026. No macro, syntax, notation, axiom, sorry.
-/
import Derived.Test.YtdihkhpgkgfnbaaDoorRows
import GoSem.ClaimSeven
namespace Go.Proofs.YtdihkhpgkgfnbaaDoor
namespace Rows

/-- THE TIED CARD OF 'clewlaw07.ScanDigits'. -/
def scanDigitsCard : Claim7 := { stood := { row := scanDigitsRow, standIns := [], harness := (true, "56f9efb4d7db365d9def5e894dfccf07008d2a48f47f9b87b100914cbe0c9bcf"), looks := false }, kinds := [], alts := [], laidByText := true, laidKinds := [.data, .pinned], laidTests := true, laidLooks := .later }
def ScanDigitsCardSaid : Prop := Claim7.holds Tryd.pinned (.plain (OpenSpec.ofChange scanDigitsSpec)) scanDigitsCard

/-- THE SECOND FORM's CARD OF 'clewlaw07.ScanDigits'. -/
def scanDigitsUptoCard : Claim7 := { stood := { row := scanDigitsUptoRow, standIns := [], harness := (true, "56f9efb4d7db365d9def5e894dfccf07008d2a48f47f9b87b100914cbe0c9bcf"), looks := false }, kinds := [], alts := [], laidByText := true, laidKinds := [.data, .pinned], laidTests := true, laidLooks := .later }
def ScanDigitsUptoCardSaid : Prop := Claim7.holds Tryd.pinned (.plain (OpenSpec.upto scanDigitsSpec)) scanDigitsUptoCard
end Rows
end Go.Proofs.YtdihkhpgkgfnbaaDoor
