/-
  DERIVED. GIVEN WITH THE SEED: THE CARDS: each row of YtiplnofaejpeoaaGreatDoorRows.lean that lists a variable, with what it lists TIED to the program's text (the seventh form; the later family's looks); each row that meets fmt, with fmt's text TOLD by the authors' own Lean function (tested against real Go, not proved from fmt's source: count such statements apart). THE CARD IS WHAT COUNTS. Prove the row's statement (the work); the ties are given (YtiplnofaejpeoaaGreatDoorTie.lean); close each card by the builder's one call (the guide's Derived/Test/ToyasCard.lean, 'card_holds'). Laid BY PROGRAM, IN A SANDBOX (cutbox-door.mjs). By AI agents, Wed Nov 11 2026. No macro, syntax, notation, axiom, sorry.
-/
import Derived.Test.YtiplnofaejpeoaaGreatDoorRows
import GoSem.ClaimSeven
namespace Go.Proofs.YtiplnofaejpeoaaGreatDoor
namespace Rows

/-- THE TIED CARD OF 'sluicewaylaw11.LockKnown'. -/
def lockKnownCard : Claim7 := { stood := { row := lockKnownRow, standIns := [], harness := (true, "236ff2a02b15dd565677bc94de9bab3574f46a586dffbe254b217a2eb8d9fd55"), looks := true }, kinds := [], alts := [], laidByText := true, laidKinds := [.data, .data, .data, .sentinel, .sentinel], laidTests := true, laidLooks := .later }
def LockKnownCardSaid : Prop := Claim7.holds Tryz.pinned (.plain (OpenSpec.ofChange lockKnownSpec)) lockKnownCard

/-- THE SECOND FORM's CARD OF 'sluicewaylaw11.LockKnown'. -/
def lockKnownUptoCard : Claim7 := { stood := { row := lockKnownUptoRow, standIns := [], harness := (true, "236ff2a02b15dd565677bc94de9bab3574f46a586dffbe254b217a2eb8d9fd55"), looks := true }, kinds := [], alts := [], laidByText := true, laidKinds := [.data, .data, .data, .sentinel, .sentinel], laidTests := true, laidLooks := .later }
def LockKnownUptoCardSaid : Prop := Claim7.holds Tryz.pinned (.plain (OpenSpec.upto lockKnownSpec)) lockKnownUptoCard
end Rows
end Go.Proofs.YtiplnofaejpeoaaGreatDoor
