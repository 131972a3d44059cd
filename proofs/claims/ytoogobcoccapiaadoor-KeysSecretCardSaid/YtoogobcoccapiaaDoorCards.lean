/-
  DERIVED. GIVEN WITH THE SEED: THE CARDS: each row of YtoogobcoccapiaaDoorRows.lean that lists a variable, with what it lists TIED to the program's text (the seventh form; the later family's looks); each row that meets fmt, with fmt's text TOLD by the authors' own Lean function (tested against real Go, not proved from fmt's source: count such statements apart). THE CARD IS WHAT COUNTS. Prove the row's statement (the work); the ties are given (YtoogobcoccapiaaDoorTie.lean); close each card by the builder's one call (the guide's Derived/Test/ToyasCard.lean, 'card_holds'). Laid BY PROGRAM, IN A SANDBOX (cutbox-door.mjs). By AI agents, Wed Nov 11 2026. No macro, syntax, notation, axiom, sorry.
-/
import Derived.Test.YtoogobcoccapiaaDoorRows
import GoSem.ClaimSeven
namespace Go.Proofs.YtoogobcoccapiaaDoor
namespace Rows

/-- THE TIED CARD OF 'sluicewaylaw16.KeysSecret'. -/
def keysSecretCard : Claim7 := { stood := { row := keysSecretRow, standIns := [], harness := (true, "47dac17f05ed3407431f128a127902f7e30c835eaf5dbcc1aa95fdca016e6ed1"), looks := true }, kinds := [], alts := [], laidByText := true, laidKinds := [.data, .data, .data, .sentinel, .sentinel, .data], laidTests := true, laidLooks := .later }
def KeysSecretCardSaid : Prop := Claim7.holds Tryd.pinned (.plain (OpenSpec.ofChange keysSecretSpec)) keysSecretCard

/-- THE SECOND FORM's CARD OF 'sluicewaylaw16.KeysSecret'. -/
def keysSecretUptoCard : Claim7 := { stood := { row := keysSecretUptoRow, standIns := [], harness := (true, "47dac17f05ed3407431f128a127902f7e30c835eaf5dbcc1aa95fdca016e6ed1"), looks := true }, kinds := [], alts := [], laidByText := true, laidKinds := [.data, .data, .data, .sentinel, .sentinel, .data], laidTests := true, laidLooks := .later }
def KeysSecretUptoCardSaid : Prop := Claim7.holds Tryd.pinned (.plain (OpenSpec.upto keysSecretSpec)) keysSecretUptoCard
end Rows
end Go.Proofs.YtoogobcoccapiaaDoor
