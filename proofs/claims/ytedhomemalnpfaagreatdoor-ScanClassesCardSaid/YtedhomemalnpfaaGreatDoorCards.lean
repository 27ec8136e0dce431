/-
  DERIVED. GIVEN WITH THE SEED: THE CARDS: each row of YtedhomemalnpfaaGreatDoorRows.lean that lists a variable, with what it lists TIED to the program's text (the seventh form; the later family's looks); each row that meets fmt, with fmt's text TOLD by the authors' own Lean function (tested against real Go, not proved from fmt's source: count such statements apart). THE CARD IS WHAT COUNTS. Prove the row's statement (the work); the ties are given (YtedhomemalnpfaaGreatDoorTie.lean); close each card by the builder's one call (the guide's Derived/Test/ToyasCard.lean, 'card_holds'). Laid BY PROGRAM, IN A SANDBOX (cutbox-door.mjs). By AI agents, Wed Nov 11 2026. No macro, syntax, notation, axiom, sorry.
-/
import Derived.Test.YtedhomemalnpfaaGreatDoorRows
import GoSem.ClaimSeven
namespace Go.Proofs.YtedhomemalnpfaaGreatDoor
namespace Rows

/-- THE TIED CARD OF 'clewlaw07.ScanNames'. -/
def scanNamesCard : Claim7 := { stood := { row := scanNamesRow, standIns := [], harness := (true, "64b65615e96da63366b16be1f4f8acbfe46644c5de298fdeb453eef2c7b6725b"), looks := false }, kinds := [], alts := [], laidByText := true, laidKinds := [.data, .pinned], laidTests := true, laidLooks := .later }
def ScanNamesCardSaid : Prop := Claim7.holds Tryz.pinned (.plain (OpenSpec.ofChange scanNamesSpec)) scanNamesCard

/-- THE TIED CARD OF 'clewlaw07.ScanCounts'. -/
def scanCountsCard : Claim7 := { stood := { row := scanCountsRow, standIns := [], harness := (true, "64b65615e96da63366b16be1f4f8acbfe46644c5de298fdeb453eef2c7b6725b"), looks := false }, kinds := [], alts := [], laidByText := true, laidKinds := [.data, .pinned], laidTests := true, laidLooks := .later }
def ScanCountsCardSaid : Prop := Claim7.holds Tryz.pinned (.plain (OpenSpec.ofChange scanCountsSpec)) scanCountsCard

/-- THE TIED CARD OF 'clewlaw07.ScanEscapes'. -/
def scanEscapesCard : Claim7 := { stood := { row := scanEscapesRow, standIns := [], harness := (true, "64b65615e96da63366b16be1f4f8acbfe46644c5de298fdeb453eef2c7b6725b"), looks := false }, kinds := [], alts := [], laidByText := true, laidKinds := [.data, .pinned], laidTests := true, laidLooks := .later }
def ScanEscapesCardSaid : Prop := Claim7.holds Tryz.pinned (.plain (OpenSpec.ofChange scanEscapesSpec)) scanEscapesCard

/-- THE TIED CARD OF 'clewlaw07.ScanClasses'. -/
def scanClassesCard : Claim7 := { stood := { row := scanClassesRow, standIns := [], harness := (true, "64b65615e96da63366b16be1f4f8acbfe46644c5de298fdeb453eef2c7b6725b"), looks := false }, kinds := [], alts := [], laidByText := true, laidKinds := [.data, .pinned], laidTests := true, laidLooks := .later }
def ScanClassesCardSaid : Prop := Claim7.holds Tryz.pinned (.plain (OpenSpec.ofChange scanClassesSpec)) scanClassesCard

/-- THE TIED CARD OF 'clewlaw07.ScanBlanks'. -/
def scanBlanksCard : Claim7 := { stood := { row := scanBlanksRow, standIns := [], harness := (true, "64b65615e96da63366b16be1f4f8acbfe46644c5de298fdeb453eef2c7b6725b"), looks := false }, kinds := [], alts := [], laidByText := true, laidKinds := [.data, .pinned], laidTests := true, laidLooks := .later }
def ScanBlanksCardSaid : Prop := Claim7.holds Tryz.pinned (.plain (OpenSpec.ofChange scanBlanksSpec)) scanBlanksCard

/-- THE SECOND FORM's CARD OF 'clewlaw07.ScanNames'. -/
def scanNamesUptoCard : Claim7 := { stood := { row := scanNamesUptoRow, standIns := [], harness := (true, "64b65615e96da63366b16be1f4f8acbfe46644c5de298fdeb453eef2c7b6725b"), looks := false }, kinds := [], alts := [], laidByText := true, laidKinds := [.data, .pinned], laidTests := true, laidLooks := .later }
def ScanNamesUptoCardSaid : Prop := Claim7.holds Tryz.pinned (.plain (OpenSpec.upto scanNamesSpec)) scanNamesUptoCard

/-- THE SECOND FORM's CARD OF 'clewlaw07.ScanCounts'. -/
def scanCountsUptoCard : Claim7 := { stood := { row := scanCountsUptoRow, standIns := [], harness := (true, "64b65615e96da63366b16be1f4f8acbfe46644c5de298fdeb453eef2c7b6725b"), looks := false }, kinds := [], alts := [], laidByText := true, laidKinds := [.data, .pinned], laidTests := true, laidLooks := .later }
def ScanCountsUptoCardSaid : Prop := Claim7.holds Tryz.pinned (.plain (OpenSpec.upto scanCountsSpec)) scanCountsUptoCard

/-- THE SECOND FORM's CARD OF 'clewlaw07.ScanEscapes'. -/
def scanEscapesUptoCard : Claim7 := { stood := { row := scanEscapesUptoRow, standIns := [], harness := (true, "64b65615e96da63366b16be1f4f8acbfe46644c5de298fdeb453eef2c7b6725b"), looks := false }, kinds := [], alts := [], laidByText := true, laidKinds := [.data, .pinned], laidTests := true, laidLooks := .later }
def ScanEscapesUptoCardSaid : Prop := Claim7.holds Tryz.pinned (.plain (OpenSpec.upto scanEscapesSpec)) scanEscapesUptoCard

/-- THE SECOND FORM's CARD OF 'clewlaw07.ScanClasses'. -/
def scanClassesUptoCard : Claim7 := { stood := { row := scanClassesUptoRow, standIns := [], harness := (true, "64b65615e96da63366b16be1f4f8acbfe46644c5de298fdeb453eef2c7b6725b"), looks := false }, kinds := [], alts := [], laidByText := true, laidKinds := [.data, .pinned], laidTests := true, laidLooks := .later }
def ScanClassesUptoCardSaid : Prop := Claim7.holds Tryz.pinned (.plain (OpenSpec.upto scanClassesSpec)) scanClassesUptoCard

/-- THE SECOND FORM's CARD OF 'clewlaw07.ScanBlanks'. -/
def scanBlanksUptoCard : Claim7 := { stood := { row := scanBlanksUptoRow, standIns := [], harness := (true, "64b65615e96da63366b16be1f4f8acbfe46644c5de298fdeb453eef2c7b6725b"), looks := false }, kinds := [], alts := [], laidByText := true, laidKinds := [.data, .pinned], laidTests := true, laidLooks := .later }
def ScanBlanksUptoCardSaid : Prop := Claim7.holds Tryz.pinned (.plain (OpenSpec.upto scanBlanksSpec)) scanBlanksUptoCard
end Rows
end Go.Proofs.YtedhomemalnpfaaGreatDoor
