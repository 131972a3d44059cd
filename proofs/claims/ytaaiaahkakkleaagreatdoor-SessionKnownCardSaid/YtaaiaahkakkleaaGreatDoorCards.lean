/-
  DERIVED. GIVEN WITH THE SEED: THE CARDS: each row of YtaaiaahkakkleaaGreatDoorRows.lean that lists a variable, with what it lists TIED to the program's text (the seventh form; the later family's looks); each row that meets fmt, with fmt's text TOLD by the authors' own Lean function (tested against real Go, not proved from fmt's source: count such statements apart). THE CARD IS WHAT COUNTS. Prove the row's statement (the work); the ties are given (YtaaiaahkakkleaaGreatDoorTie.lean); close each card by the builder's one call (the guide's Derived/Test/ToyasCard.lean, 'card_holds'). Laid BY PROGRAM, IN A SANDBOX (cutbox-door.mjs). By AI agents, Wed Nov 11 2026. No macro, syntax, notation, axiom, sorry.
-/
import Derived.Test.YtaaiaahkakkleaaGreatDoorRows
import GoSem.ClaimSeven
namespace Go.Proofs.YtaaiaahkakkleaaGreatDoor
namespace Rows

/-- THE TIED CARD OF 'sluicewaylaw21.SessionKnown'. -/
def sessionKnownCard : Claim7 := { stood := { row := sessionKnownRow, standIns := [], harness := (true, "9d15ed0c381ed4ea3f94a2ecd85c2bf2a6813b2eee0c8ef3abd44dc1dcbe200b"), looks := true }, kinds := [], alts := [], laidByText := true, laidKinds := [.data, .data, .data, .sentinel, .sentinel], laidTests := true, laidLooks := .later }
def SessionKnownCardSaid : Prop := Claim7.holds Tryz.pinned (.plain (OpenSpec.ofChange sessionKnownSpec)) sessionKnownCard

/-- THE SECOND FORM's CARD OF 'sluicewaylaw21.SessionKnown'. -/
def sessionKnownUptoCard : Claim7 := { stood := { row := sessionKnownUptoRow, standIns := [], harness := (true, "9d15ed0c381ed4ea3f94a2ecd85c2bf2a6813b2eee0c8ef3abd44dc1dcbe200b"), looks := true }, kinds := [], alts := [], laidByText := true, laidKinds := [.data, .data, .data, .sentinel, .sentinel], laidTests := true, laidLooks := .later }
def SessionKnownUptoCardSaid : Prop := Claim7.holds Tryz.pinned (.plain (OpenSpec.upto sessionKnownSpec)) sessionKnownUptoCard
end Rows
end Go.Proofs.YtaaiaahkakkleaaGreatDoor
