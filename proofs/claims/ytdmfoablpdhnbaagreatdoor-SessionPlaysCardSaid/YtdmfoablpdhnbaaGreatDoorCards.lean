/-
  DERIVED. GIVEN WITH THE SEED: THE CARDS: each row of YtdmfoablpdhnbaaGreatDoorRows.lean that lists a variable, with what it lists TIED to the program's text (the seventh form; the later family's looks); each row that meets fmt, with fmt's text TOLD by the authors' own Lean function (tested against real Go, not proved from fmt's source: count such statements apart). THE CARD IS WHAT COUNTS. Prove the row's statement (the work); the ties are given (YtdmfoablpdhnbaaGreatDoorTie.lean); close each card by the builder's one call (the guide's Derived/Test/ToyasCard.lean, 'card_holds'). Laid BY PROGRAM, IN A SANDBOX (cutbox-door.mjs). By AI agents, Wed Nov 11 2026. No macro, syntax, notation, axiom, sorry.
-/
import Derived.Test.YtdmfoablpdhnbaaGreatDoorRows
import GoSem.ClaimSeven
namespace Go.Proofs.YtdmfoablpdhnbaaGreatDoor
namespace Rows

/-- THE TIED CARD OF 'sluicewaylaw21.SessionPlays'. -/
def sessionPlaysCard : Claim7 := { stood := { row := sessionPlaysRow, standIns := [], harness := (true, "4986a330a7e59766614ae9aa42b88c1dc8235c8ccb633a261c3765de22febd2f"), looks := true }, kinds := [], alts := [], laidByText := true, laidKinds := [.data, .data, .data, .sentinel, .sentinel], laidTests := true, laidLooks := .later }
def SessionPlaysCardSaid : Prop := Claim7.holds Tryz.pinned (.plain (OpenSpec.ofChange sessionPlaysSpec)) sessionPlaysCard

/-- THE TIED CARD OF 'sluicewaylaw16.KeysKnown'. -/
def keysKnownCard : Claim7 := { stood := { row := keysKnownRow, standIns := [], harness := (true, "4986a330a7e59766614ae9aa42b88c1dc8235c8ccb633a261c3765de22febd2f"), looks := true }, kinds := [], alts := [], laidByText := true, laidKinds := [.data, .data, .data, .sentinel, .sentinel, .data], laidTests := true, laidLooks := .later }
def KeysKnownCardSaid : Prop := Claim7.holds Tryz.pinned (.plain (OpenSpec.ofChange keysKnownSpec)) keysKnownCard

/-- THE TIED CARD OF 'sluicewaylaw21.SessionForges'. -/
def sessionForgesCard : Claim7 := { stood := { row := sessionForgesRow, standIns := [], harness := (true, "4986a330a7e59766614ae9aa42b88c1dc8235c8ccb633a261c3765de22febd2f"), looks := true }, kinds := [], alts := [], laidByText := true, laidKinds := [.data, .data, .data, .sentinel, .sentinel], laidTests := true, laidLooks := .later }
def SessionForgesCardSaid : Prop := Claim7.holds Tryz.pinned (.plain (OpenSpec.ofChange sessionForgesSpec)) sessionForgesCard

/-- THE TIED CARD OF 'sluicewaylaw21.SessionKnown'. -/
def sessionKnownCard : Claim7 := { stood := { row := sessionKnownRow, standIns := [], harness := (true, "4986a330a7e59766614ae9aa42b88c1dc8235c8ccb633a261c3765de22febd2f"), looks := true }, kinds := [], alts := [], laidByText := true, laidKinds := [.data, .data, .data, .sentinel, .sentinel], laidTests := true, laidLooks := .later }
def SessionKnownCardSaid : Prop := Claim7.holds Tryz.pinned (.plain (OpenSpec.ofChange sessionKnownSpec)) sessionKnownCard

/-- THE SECOND FORM's CARD OF 'sluicewaylaw21.SessionPlays'. -/
def sessionPlaysUptoCard : Claim7 := { stood := { row := sessionPlaysUptoRow, standIns := [], harness := (true, "4986a330a7e59766614ae9aa42b88c1dc8235c8ccb633a261c3765de22febd2f"), looks := true }, kinds := [], alts := [], laidByText := true, laidKinds := [.data, .data, .data, .sentinel, .sentinel], laidTests := true, laidLooks := .later }
def SessionPlaysUptoCardSaid : Prop := Claim7.holds Tryz.pinned (.plain (OpenSpec.upto sessionPlaysSpec)) sessionPlaysUptoCard

/-- THE SECOND FORM's CARD OF 'sluicewaylaw16.KeysKnown'. -/
def keysKnownUptoCard : Claim7 := { stood := { row := keysKnownUptoRow, standIns := [], harness := (true, "4986a330a7e59766614ae9aa42b88c1dc8235c8ccb633a261c3765de22febd2f"), looks := true }, kinds := [], alts := [], laidByText := true, laidKinds := [.data, .data, .data, .sentinel, .sentinel, .data], laidTests := true, laidLooks := .later }
def KeysKnownUptoCardSaid : Prop := Claim7.holds Tryz.pinned (.plain (OpenSpec.upto keysKnownSpec)) keysKnownUptoCard

/-- THE SECOND FORM's CARD OF 'sluicewaylaw21.SessionForges'. -/
def sessionForgesUptoCard : Claim7 := { stood := { row := sessionForgesUptoRow, standIns := [], harness := (true, "4986a330a7e59766614ae9aa42b88c1dc8235c8ccb633a261c3765de22febd2f"), looks := true }, kinds := [], alts := [], laidByText := true, laidKinds := [.data, .data, .data, .sentinel, .sentinel], laidTests := true, laidLooks := .later }
def SessionForgesUptoCardSaid : Prop := Claim7.holds Tryz.pinned (.plain (OpenSpec.upto sessionForgesSpec)) sessionForgesUptoCard

/-- THE SECOND FORM's CARD OF 'sluicewaylaw21.SessionKnown'. -/
def sessionKnownUptoCard : Claim7 := { stood := { row := sessionKnownUptoRow, standIns := [], harness := (true, "4986a330a7e59766614ae9aa42b88c1dc8235c8ccb633a261c3765de22febd2f"), looks := true }, kinds := [], alts := [], laidByText := true, laidKinds := [.data, .data, .data, .sentinel, .sentinel], laidTests := true, laidLooks := .later }
def SessionKnownUptoCardSaid : Prop := Claim7.holds Tryz.pinned (.plain (OpenSpec.upto sessionKnownSpec)) sessionKnownUptoCard
end Rows
end Go.Proofs.YtdmfoablpdhnbaaGreatDoor
