/-
  DERIVED. GIVEN WITH THE SEED: THE CARDS: each row of YtbhffcogeeeidaaDoorRows.lean that lists a variable, with what it lists TIED to the program's text (the seventh form; the later family's looks); each row that meets fmt, with fmt's text TOLD by the authors' own Lean function (tested against real Go, not proved from fmt's source: count such statements apart). THE CARD IS WHAT COUNTS. Prove the row's statement (the work); the ties are given (YtbhffcogeeeidaaDoorTie.lean); close each card by the builder's one call (the guide's Derived/Test/ToyasCard.lean, 'card_holds'). Laid BY PROGRAM, IN A SANDBOX (cutbox-door.mjs). By AI agents, Wed Nov 11 2026. No macro, syntax, notation, axiom, sorry.
-/
import Derived.Test.YtbhffcogeeeidaaDoorRows
import GoSem.ClaimSeven
namespace Go.Proofs.YtbhffcogeeeidaaDoor
namespace Rows

/-- THE TIED CARD OF 'clewlaw11.CodeRight'. -/
def codeRightCard : Claim7 := { stood := { row := codeRightRow, standIns := [], harness := (true, "654e27cde6a6b90203e7e350a4a79285ad70fa9db2cb3388af354f345f71ec76"), looks := false }, kinds := [], alts := [], laidByText := true, laidKinds := [.data, .data, .data], laidTests := true, laidLooks := .later }
def CodeRightCardSaid : Prop := Claim7.holds Tryd.pinned (.plain (OpenSpec.ofChange codeRightSpec)) codeRightCard

/-- THE TIED CARD OF 'clewlaw11.CodeForward'. -/
def codeForwardCard : Claim7 := { stood := { row := codeForwardRow, standIns := [], harness := (true, "654e27cde6a6b90203e7e350a4a79285ad70fa9db2cb3388af354f345f71ec76"), looks := false }, kinds := [], alts := [], laidByText := true, laidKinds := [.data, .data, .data], laidTests := true, laidLooks := .later }
def CodeForwardCardSaid : Prop := Claim7.holds Tryd.pinned (.plain (OpenSpec.ofChange codeForwardSpec)) codeForwardCard

/-- THE TIED CARD OF 'clewlaw11.CodeLines'. -/
def codeLinesCard : Claim7 := { stood := { row := codeLinesRow, standIns := [], harness := (true, "654e27cde6a6b90203e7e350a4a79285ad70fa9db2cb3388af354f345f71ec76"), looks := false }, kinds := [], alts := [], laidByText := true, laidKinds := [.data, .data, .data], laidTests := true, laidLooks := .later }
def CodeLinesCardSaid : Prop := Claim7.holds Tryd.pinned (.plain (OpenSpec.ofChange codeLinesSpec)) codeLinesCard

/-- THE SECOND FORM's CARD OF 'clewlaw11.CodeRight'. -/
def codeRightUptoCard : Claim7 := { stood := { row := codeRightUptoRow, standIns := [], harness := (true, "654e27cde6a6b90203e7e350a4a79285ad70fa9db2cb3388af354f345f71ec76"), looks := false }, kinds := [], alts := [], laidByText := true, laidKinds := [.data, .data, .data], laidTests := true, laidLooks := .later }
def CodeRightUptoCardSaid : Prop := Claim7.holds Tryd.pinned (.plain (OpenSpec.upto codeRightSpec)) codeRightUptoCard

/-- THE SECOND FORM's CARD OF 'clewlaw11.CodeForward'. -/
def codeForwardUptoCard : Claim7 := { stood := { row := codeForwardUptoRow, standIns := [], harness := (true, "654e27cde6a6b90203e7e350a4a79285ad70fa9db2cb3388af354f345f71ec76"), looks := false }, kinds := [], alts := [], laidByText := true, laidKinds := [.data, .data, .data], laidTests := true, laidLooks := .later }
def CodeForwardUptoCardSaid : Prop := Claim7.holds Tryd.pinned (.plain (OpenSpec.upto codeForwardSpec)) codeForwardUptoCard

/-- THE SECOND FORM's CARD OF 'clewlaw11.CodeLines'. -/
def codeLinesUptoCard : Claim7 := { stood := { row := codeLinesUptoRow, standIns := [], harness := (true, "654e27cde6a6b90203e7e350a4a79285ad70fa9db2cb3388af354f345f71ec76"), looks := false }, kinds := [], alts := [], laidByText := true, laidKinds := [.data, .data, .data], laidTests := true, laidLooks := .later }
def CodeLinesUptoCardSaid : Prop := Claim7.holds Tryd.pinned (.plain (OpenSpec.upto codeLinesSpec)) codeLinesUptoCard
end Rows
end Go.Proofs.YtbhffcogeeeidaaDoor
