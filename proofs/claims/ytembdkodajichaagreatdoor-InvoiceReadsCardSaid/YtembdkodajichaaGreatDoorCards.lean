/-
  DERIVED. GIVEN WITH THE SEED: THE CARDS: each row of YtembdkodajichaaGreatDoorRows.lean that lists a variable, with what it lists TIED to the program's text (the seventh form; the later family's looks); each row that meets fmt, with fmt's text TOLD by the authors' own Lean function (tested against real Go, not proved from fmt's source: count such statements apart). THE CARD IS WHAT COUNTS. Prove the row's statement (the work); the ties are given (YtembdkodajichaaGreatDoorTie.lean); close each card by the builder's one call (the guide's Derived/Test/ToyasCard.lean, 'card_holds'). Laid BY PROGRAM, IN A SANDBOX (cutbox-door.mjs). By AI agents, Wed Nov 11 2026. No macro, syntax, notation, axiom, sorry.
-/
import Derived.Test.YtembdkodajichaaGreatDoorRows
import GoSem.ClaimSeven
namespace Go.Proofs.YtembdkodajichaaGreatDoor
namespace Rows

/-- THE TIED CARD OF 'sluicewaylaw07.InvoiceAmounts'. -/
def invoiceAmountsCard : Claim7 := { stood := { row := invoiceAmountsRow, standIns := [], harness := (true, "48c43c49f213e5ef9ce24f5e963b5a3e8c54a51dec1814e5a5aa420cd48cd12e"), looks := true }, kinds := [], alts := [], laidByText := true, laidKinds := [.data, .data, .data, .data, .data, .sentinel, .sentinel, .data, .pinned, .pinned], laidTests := true, laidLooks := .later }
def InvoiceAmountsCardSaid : Prop := Claim7.holds Tryz.pinned (.plain (OpenSpec.ofChange invoiceAmountsSpec)) invoiceAmountsCard

/-- THE TIED CARD OF 'sluicewaylaw07.InvoiceWrites'. -/
def invoiceWritesCard : Claim7 := { stood := { row := invoiceWritesRow, standIns := [], harness := (true, "48c43c49f213e5ef9ce24f5e963b5a3e8c54a51dec1814e5a5aa420cd48cd12e"), looks := true }, kinds := [], alts := [], laidByText := true, laidKinds := [.data, .data, .data, .data, .data, .sentinel, .sentinel, .data, .pinned, .pinned], laidTests := true, laidLooks := .later }
def InvoiceWritesCardSaid : Prop := Claim7.holds Tryz.pinned (.plain (OpenSpec.ofChange invoiceWritesSpec)) invoiceWritesCard

/-- THE TIED CARD OF 'sluicewaylaw07.InvoiceReads'. -/
def invoiceReadsCard : Claim7 := { stood := { row := invoiceReadsRow, standIns := [], harness := (true, "48c43c49f213e5ef9ce24f5e963b5a3e8c54a51dec1814e5a5aa420cd48cd12e"), looks := true }, kinds := [], alts := [], laidByText := true, laidKinds := [.data, .data, .data, .data, .data, .sentinel, .sentinel, .data, .pinned, .pinned], laidTests := true, laidLooks := .later }
def InvoiceReadsCardSaid : Prop := Claim7.holds Tryz.pinned (.plain (OpenSpec.ofChange invoiceReadsSpec)) invoiceReadsCard

/-- THE TIED CARD OF 'sluicewaylaw07.InvoiceBack'. -/
def invoiceBackCard : Claim7 := { stood := { row := invoiceBackRow, standIns := [], harness := (true, "48c43c49f213e5ef9ce24f5e963b5a3e8c54a51dec1814e5a5aa420cd48cd12e"), looks := true }, kinds := [], alts := [], laidByText := true, laidKinds := [.data, .data, .data, .data, .data, .sentinel, .sentinel, .data, .pinned, .pinned], laidTests := true, laidLooks := .later }
def InvoiceBackCardSaid : Prop := Claim7.holds Tryz.pinned (.plain (OpenSpec.ofChange invoiceBackSpec)) invoiceBackCard

/-- THE TIED CARD OF 'sluicewaylaw07.InvoiceKnown'. -/
def invoiceKnownCard : Claim7 := { stood := { row := invoiceKnownRow, standIns := [], harness := (true, "48c43c49f213e5ef9ce24f5e963b5a3e8c54a51dec1814e5a5aa420cd48cd12e"), looks := true }, kinds := [], alts := [], laidByText := true, laidKinds := [.data, .data, .data, .data, .data, .sentinel, .sentinel, .data, .pinned, .pinned], laidTests := true, laidLooks := .later }
def InvoiceKnownCardSaid : Prop := Claim7.holds Tryz.pinned (.plain (OpenSpec.ofChange invoiceKnownSpec)) invoiceKnownCard

/-- THE TIED CARD OF 'sluicewaylaw07.InvoiceTurned'. -/
def invoiceTurnedCard : Claim7 := { stood := { row := invoiceTurnedRow, standIns := [], harness := (true, "48c43c49f213e5ef9ce24f5e963b5a3e8c54a51dec1814e5a5aa420cd48cd12e"), looks := true }, kinds := [], alts := [], laidByText := true, laidKinds := [.data, .data, .data, .data, .data, .sentinel, .sentinel, .data, .pinned, .pinned], laidTests := true, laidLooks := .later }
def InvoiceTurnedCardSaid : Prop := Claim7.holds Tryz.pinned (.plain (OpenSpec.ofChange invoiceTurnedSpec)) invoiceTurnedCard

/-- THE SECOND FORM's CARD OF 'sluicewaylaw07.InvoiceAmounts'. -/
def invoiceAmountsUptoCard : Claim7 := { stood := { row := invoiceAmountsUptoRow, standIns := [], harness := (true, "48c43c49f213e5ef9ce24f5e963b5a3e8c54a51dec1814e5a5aa420cd48cd12e"), looks := true }, kinds := [], alts := [], laidByText := true, laidKinds := [.data, .data, .data, .data, .data, .sentinel, .sentinel, .data, .pinned, .pinned], laidTests := true, laidLooks := .later }
def InvoiceAmountsUptoCardSaid : Prop := Claim7.holds Tryz.pinned (.plain (OpenSpec.upto invoiceAmountsSpec)) invoiceAmountsUptoCard

/-- THE SECOND FORM's CARD OF 'sluicewaylaw07.InvoiceWrites'. -/
def invoiceWritesUptoCard : Claim7 := { stood := { row := invoiceWritesUptoRow, standIns := [], harness := (true, "48c43c49f213e5ef9ce24f5e963b5a3e8c54a51dec1814e5a5aa420cd48cd12e"), looks := true }, kinds := [], alts := [], laidByText := true, laidKinds := [.data, .data, .data, .data, .data, .sentinel, .sentinel, .data, .pinned, .pinned], laidTests := true, laidLooks := .later }
def InvoiceWritesUptoCardSaid : Prop := Claim7.holds Tryz.pinned (.plain (OpenSpec.upto invoiceWritesSpec)) invoiceWritesUptoCard

/-- THE SECOND FORM's CARD OF 'sluicewaylaw07.InvoiceReads'. -/
def invoiceReadsUptoCard : Claim7 := { stood := { row := invoiceReadsUptoRow, standIns := [], harness := (true, "48c43c49f213e5ef9ce24f5e963b5a3e8c54a51dec1814e5a5aa420cd48cd12e"), looks := true }, kinds := [], alts := [], laidByText := true, laidKinds := [.data, .data, .data, .data, .data, .sentinel, .sentinel, .data, .pinned, .pinned], laidTests := true, laidLooks := .later }
def InvoiceReadsUptoCardSaid : Prop := Claim7.holds Tryz.pinned (.plain (OpenSpec.upto invoiceReadsSpec)) invoiceReadsUptoCard

/-- THE SECOND FORM's CARD OF 'sluicewaylaw07.InvoiceBack'. -/
def invoiceBackUptoCard : Claim7 := { stood := { row := invoiceBackUptoRow, standIns := [], harness := (true, "48c43c49f213e5ef9ce24f5e963b5a3e8c54a51dec1814e5a5aa420cd48cd12e"), looks := true }, kinds := [], alts := [], laidByText := true, laidKinds := [.data, .data, .data, .data, .data, .sentinel, .sentinel, .data, .pinned, .pinned], laidTests := true, laidLooks := .later }
def InvoiceBackUptoCardSaid : Prop := Claim7.holds Tryz.pinned (.plain (OpenSpec.upto invoiceBackSpec)) invoiceBackUptoCard

/-- THE SECOND FORM's CARD OF 'sluicewaylaw07.InvoiceKnown'. -/
def invoiceKnownUptoCard : Claim7 := { stood := { row := invoiceKnownUptoRow, standIns := [], harness := (true, "48c43c49f213e5ef9ce24f5e963b5a3e8c54a51dec1814e5a5aa420cd48cd12e"), looks := true }, kinds := [], alts := [], laidByText := true, laidKinds := [.data, .data, .data, .data, .data, .sentinel, .sentinel, .data, .pinned, .pinned], laidTests := true, laidLooks := .later }
def InvoiceKnownUptoCardSaid : Prop := Claim7.holds Tryz.pinned (.plain (OpenSpec.upto invoiceKnownSpec)) invoiceKnownUptoCard

/-- THE SECOND FORM's CARD OF 'sluicewaylaw07.InvoiceTurned'. -/
def invoiceTurnedUptoCard : Claim7 := { stood := { row := invoiceTurnedUptoRow, standIns := [], harness := (true, "48c43c49f213e5ef9ce24f5e963b5a3e8c54a51dec1814e5a5aa420cd48cd12e"), looks := true }, kinds := [], alts := [], laidByText := true, laidKinds := [.data, .data, .data, .data, .data, .sentinel, .sentinel, .data, .pinned, .pinned], laidTests := true, laidLooks := .later }
def InvoiceTurnedUptoCardSaid : Prop := Claim7.holds Tryz.pinned (.plain (OpenSpec.upto invoiceTurnedSpec)) invoiceTurnedUptoCard
end Rows
end Go.Proofs.YtembdkodajichaaGreatDoor
