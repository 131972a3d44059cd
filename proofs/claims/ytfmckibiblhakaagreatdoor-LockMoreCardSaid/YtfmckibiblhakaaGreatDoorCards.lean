/-
  DERIVED. GIVEN WITH THE SEED: THE CARDS: each row of YtfmckibiblhakaaGreatDoorRows.lean that lists a variable, with what it lists TIED to the program's text (the seventh form; the later family's looks); each row that meets fmt, with fmt's text TOLD by the authors' own Lean function (tested against real Go, not proved from fmt's source: count such statements apart). THE CARD IS WHAT COUNTS. Prove the row's statement (the work); the ties are given (YtfmckibiblhakaaGreatDoorTie.lean); close each card by the builder's one call (the guide's Derived/Test/ToyasCard.lean, 'card_holds'). Laid BY PROGRAM, IN A SANDBOX (cutbox-door.mjs). By AI agents, Wed Nov 11 2026. No macro, syntax, notation, axiom, sorry.
-/
import Derived.Test.YtfmckibiblhakaaGreatDoorRows
import GoSem.ClaimSeven
namespace Go.Proofs.YtfmckibiblhakaaGreatDoor
namespace Rows

/-- THE TIED CARD OF 'sluicewaylaw11.LockWrites'. -/
def lockWritesCard : Claim7 := { stood := { row := lockWritesRow, standIns := [], harness := (true, "71e376b789158c882cbf08ef6ea09733241b523c00aecce1c748a1905d0f92fd"), looks := true }, kinds := [], alts := [], laidByText := true, laidKinds := [.data, .data, .data, .sentinel, .sentinel], laidTests := true, laidLooks := .later }
def LockWritesCardSaid : Prop := Claim7.holds Tryz.pinned (.plain (OpenSpec.ofChange lockWritesSpec)) lockWritesCard

/-- THE TIED CARD OF 'sluicewaylaw11.LockReads'. -/
def lockReadsCard : Claim7 := { stood := { row := lockReadsRow, standIns := [], harness := (true, "71e376b789158c882cbf08ef6ea09733241b523c00aecce1c748a1905d0f92fd"), looks := true }, kinds := [], alts := [], laidByText := true, laidKinds := [.data, .data, .data, .sentinel, .sentinel], laidTests := true, laidLooks := .later }
def LockReadsCardSaid : Prop := Claim7.holds Tryz.pinned (.plain (OpenSpec.ofChange lockReadsSpec)) lockReadsCard

/-- THE TIED CARD OF 'sluicewaylaw11.LockOpens'. -/
def lockOpensCard : Claim7 := { stood := { row := lockOpensRow, standIns := [], harness := (true, "71e376b789158c882cbf08ef6ea09733241b523c00aecce1c748a1905d0f92fd"), looks := true }, kinds := [], alts := [], laidByText := true, laidKinds := [.data, .data, .data, .sentinel, .sentinel], laidTests := true, laidLooks := .later }
def LockOpensCardSaid : Prop := Claim7.holds Tryz.pinned (.plain (OpenSpec.ofChange lockOpensSpec)) lockOpensCard

/-- THE TIED CARD OF 'sluicewaylaw11.LockBack'. -/
def lockBackCard : Claim7 := { stood := { row := lockBackRow, standIns := [], harness := (true, "71e376b789158c882cbf08ef6ea09733241b523c00aecce1c748a1905d0f92fd"), looks := true }, kinds := [], alts := [], laidByText := true, laidKinds := [.data, .data, .data, .sentinel, .sentinel], laidTests := true, laidLooks := .later }
def LockBackCardSaid : Prop := Claim7.holds Tryz.pinned (.plain (OpenSpec.ofChange lockBackSpec)) lockBackCard

/-- THE TIED CARD OF 'sluicewaylaw11.LockMore'. -/
def lockMoreCard : Claim7 := { stood := { row := lockMoreRow, standIns := [], harness := (true, "71e376b789158c882cbf08ef6ea09733241b523c00aecce1c748a1905d0f92fd"), looks := true }, kinds := [], alts := [], laidByText := true, laidKinds := [.data, .data, .data, .sentinel, .sentinel], laidTests := true, laidLooks := .later }
def LockMoreCardSaid : Prop := Claim7.holds Tryz.pinned (.plain (OpenSpec.ofChange lockMoreSpec)) lockMoreCard

/-- THE TIED CARD OF 'sluicewaylaw11.LockMakes'. -/
def lockMakesCard : Claim7 := { stood := { row := lockMakesRow, standIns := [], harness := (true, "71e376b789158c882cbf08ef6ea09733241b523c00aecce1c748a1905d0f92fd"), looks := true }, kinds := [], alts := [], laidByText := true, laidKinds := [.data, .data, .data, .sentinel, .sentinel], laidTests := true, laidLooks := .later }
def LockMakesCardSaid : Prop := Claim7.holds Tryz.pinned (.plain (OpenSpec.ofChange lockMakesSpec)) lockMakesCard

/-- THE TIED CARD OF 'sluicewaylaw11.LockNeeds'. -/
def lockNeedsCard : Claim7 := { stood := { row := lockNeedsRow, standIns := [], harness := (true, "71e376b789158c882cbf08ef6ea09733241b523c00aecce1c748a1905d0f92fd"), looks := true }, kinds := [], alts := [], laidByText := true, laidKinds := [.data, .data, .data, .sentinel, .sentinel], laidTests := true, laidLooks := .later }
def LockNeedsCardSaid : Prop := Claim7.holds Tryz.pinned (.plain (OpenSpec.ofChange lockNeedsSpec)) lockNeedsCard

/-- THE TIED CARD OF 'sluicewaylaw11.LockKnown'. -/
def lockKnownCard : Claim7 := { stood := { row := lockKnownRow, standIns := [], harness := (true, "71e376b789158c882cbf08ef6ea09733241b523c00aecce1c748a1905d0f92fd"), looks := true }, kinds := [], alts := [], laidByText := true, laidKinds := [.data, .data, .data, .sentinel, .sentinel], laidTests := true, laidLooks := .later }
def LockKnownCardSaid : Prop := Claim7.holds Tryz.pinned (.plain (OpenSpec.ofChange lockKnownSpec)) lockKnownCard

/-- THE TIED CARD OF 'sluicewaylaw14.WatchPlays'. -/
def watchPlaysCard : Claim7 := { stood := { row := watchPlaysRow, standIns := [], harness := (true, "71e376b789158c882cbf08ef6ea09733241b523c00aecce1c748a1905d0f92fd"), looks := true }, kinds := [], alts := [], laidByText := true, laidKinds := [.data, .data, .data, .data, .sentinel, .sentinel], laidTests := true, laidLooks := .later }
def WatchPlaysCardSaid : Prop := Claim7.holds Tryz.pinned (.plain (OpenSpec.ofChange watchPlaysSpec)) watchPlaysCard

/-- THE TIED CARD OF 'sluicewaylaw14.WatchLast'. -/
def watchLastCard : Claim7 := { stood := { row := watchLastRow, standIns := [], harness := (true, "71e376b789158c882cbf08ef6ea09733241b523c00aecce1c748a1905d0f92fd"), looks := true }, kinds := [], alts := [], laidByText := true, laidKinds := [.data, .data, .data, .data, .sentinel, .sentinel], laidTests := true, laidLooks := .later }
def WatchLastCardSaid : Prop := Claim7.holds Tryz.pinned (.plain (OpenSpec.ofChange watchLastSpec)) watchLastCard

/-- THE TIED CARD OF 'sluicewaylaw14.WatchAlone'. -/
def watchAloneCard : Claim7 := { stood := { row := watchAloneRow, standIns := [], harness := (true, "71e376b789158c882cbf08ef6ea09733241b523c00aecce1c748a1905d0f92fd"), looks := true }, kinds := [], alts := [], laidByText := true, laidKinds := [.data, .data, .data, .data, .sentinel, .sentinel], laidTests := true, laidLooks := .later }
def WatchAloneCardSaid : Prop := Claim7.holds Tryz.pinned (.plain (OpenSpec.ofChange watchAloneSpec)) watchAloneCard

/-- THE TIED CARD OF 'sluicewaylaw14.WatchKnown'. -/
def watchKnownCard : Claim7 := { stood := { row := watchKnownRow, standIns := [], harness := (true, "71e376b789158c882cbf08ef6ea09733241b523c00aecce1c748a1905d0f92fd"), looks := true }, kinds := [], alts := [], laidByText := true, laidKinds := [.data, .data, .data, .data, .sentinel, .sentinel], laidTests := true, laidLooks := .later }
def WatchKnownCardSaid : Prop := Claim7.holds Tryz.pinned (.plain (OpenSpec.ofChange watchKnownSpec)) watchKnownCard

/-- THE SECOND FORM's CARD OF 'sluicewaylaw11.LockWrites'. -/
def lockWritesUptoCard : Claim7 := { stood := { row := lockWritesUptoRow, standIns := [], harness := (true, "71e376b789158c882cbf08ef6ea09733241b523c00aecce1c748a1905d0f92fd"), looks := true }, kinds := [], alts := [], laidByText := true, laidKinds := [.data, .data, .data, .sentinel, .sentinel], laidTests := true, laidLooks := .later }
def LockWritesUptoCardSaid : Prop := Claim7.holds Tryz.pinned (.plain (OpenSpec.upto lockWritesSpec)) lockWritesUptoCard

/-- THE SECOND FORM's CARD OF 'sluicewaylaw11.LockReads'. -/
def lockReadsUptoCard : Claim7 := { stood := { row := lockReadsUptoRow, standIns := [], harness := (true, "71e376b789158c882cbf08ef6ea09733241b523c00aecce1c748a1905d0f92fd"), looks := true }, kinds := [], alts := [], laidByText := true, laidKinds := [.data, .data, .data, .sentinel, .sentinel], laidTests := true, laidLooks := .later }
def LockReadsUptoCardSaid : Prop := Claim7.holds Tryz.pinned (.plain (OpenSpec.upto lockReadsSpec)) lockReadsUptoCard

/-- THE SECOND FORM's CARD OF 'sluicewaylaw11.LockOpens'. -/
def lockOpensUptoCard : Claim7 := { stood := { row := lockOpensUptoRow, standIns := [], harness := (true, "71e376b789158c882cbf08ef6ea09733241b523c00aecce1c748a1905d0f92fd"), looks := true }, kinds := [], alts := [], laidByText := true, laidKinds := [.data, .data, .data, .sentinel, .sentinel], laidTests := true, laidLooks := .later }
def LockOpensUptoCardSaid : Prop := Claim7.holds Tryz.pinned (.plain (OpenSpec.upto lockOpensSpec)) lockOpensUptoCard

/-- THE SECOND FORM's CARD OF 'sluicewaylaw11.LockBack'. -/
def lockBackUptoCard : Claim7 := { stood := { row := lockBackUptoRow, standIns := [], harness := (true, "71e376b789158c882cbf08ef6ea09733241b523c00aecce1c748a1905d0f92fd"), looks := true }, kinds := [], alts := [], laidByText := true, laidKinds := [.data, .data, .data, .sentinel, .sentinel], laidTests := true, laidLooks := .later }
def LockBackUptoCardSaid : Prop := Claim7.holds Tryz.pinned (.plain (OpenSpec.upto lockBackSpec)) lockBackUptoCard

/-- THE SECOND FORM's CARD OF 'sluicewaylaw11.LockMore'. -/
def lockMoreUptoCard : Claim7 := { stood := { row := lockMoreUptoRow, standIns := [], harness := (true, "71e376b789158c882cbf08ef6ea09733241b523c00aecce1c748a1905d0f92fd"), looks := true }, kinds := [], alts := [], laidByText := true, laidKinds := [.data, .data, .data, .sentinel, .sentinel], laidTests := true, laidLooks := .later }
def LockMoreUptoCardSaid : Prop := Claim7.holds Tryz.pinned (.plain (OpenSpec.upto lockMoreSpec)) lockMoreUptoCard

/-- THE SECOND FORM's CARD OF 'sluicewaylaw11.LockMakes'. -/
def lockMakesUptoCard : Claim7 := { stood := { row := lockMakesUptoRow, standIns := [], harness := (true, "71e376b789158c882cbf08ef6ea09733241b523c00aecce1c748a1905d0f92fd"), looks := true }, kinds := [], alts := [], laidByText := true, laidKinds := [.data, .data, .data, .sentinel, .sentinel], laidTests := true, laidLooks := .later }
def LockMakesUptoCardSaid : Prop := Claim7.holds Tryz.pinned (.plain (OpenSpec.upto lockMakesSpec)) lockMakesUptoCard

/-- THE SECOND FORM's CARD OF 'sluicewaylaw11.LockNeeds'. -/
def lockNeedsUptoCard : Claim7 := { stood := { row := lockNeedsUptoRow, standIns := [], harness := (true, "71e376b789158c882cbf08ef6ea09733241b523c00aecce1c748a1905d0f92fd"), looks := true }, kinds := [], alts := [], laidByText := true, laidKinds := [.data, .data, .data, .sentinel, .sentinel], laidTests := true, laidLooks := .later }
def LockNeedsUptoCardSaid : Prop := Claim7.holds Tryz.pinned (.plain (OpenSpec.upto lockNeedsSpec)) lockNeedsUptoCard

/-- THE SECOND FORM's CARD OF 'sluicewaylaw11.LockKnown'. -/
def lockKnownUptoCard : Claim7 := { stood := { row := lockKnownUptoRow, standIns := [], harness := (true, "71e376b789158c882cbf08ef6ea09733241b523c00aecce1c748a1905d0f92fd"), looks := true }, kinds := [], alts := [], laidByText := true, laidKinds := [.data, .data, .data, .sentinel, .sentinel], laidTests := true, laidLooks := .later }
def LockKnownUptoCardSaid : Prop := Claim7.holds Tryz.pinned (.plain (OpenSpec.upto lockKnownSpec)) lockKnownUptoCard

/-- THE SECOND FORM's CARD OF 'sluicewaylaw14.WatchPlays'. -/
def watchPlaysUptoCard : Claim7 := { stood := { row := watchPlaysUptoRow, standIns := [], harness := (true, "71e376b789158c882cbf08ef6ea09733241b523c00aecce1c748a1905d0f92fd"), looks := true }, kinds := [], alts := [], laidByText := true, laidKinds := [.data, .data, .data, .data, .sentinel, .sentinel], laidTests := true, laidLooks := .later }
def WatchPlaysUptoCardSaid : Prop := Claim7.holds Tryz.pinned (.plain (OpenSpec.upto watchPlaysSpec)) watchPlaysUptoCard

/-- THE SECOND FORM's CARD OF 'sluicewaylaw14.WatchLast'. -/
def watchLastUptoCard : Claim7 := { stood := { row := watchLastUptoRow, standIns := [], harness := (true, "71e376b789158c882cbf08ef6ea09733241b523c00aecce1c748a1905d0f92fd"), looks := true }, kinds := [], alts := [], laidByText := true, laidKinds := [.data, .data, .data, .data, .sentinel, .sentinel], laidTests := true, laidLooks := .later }
def WatchLastUptoCardSaid : Prop := Claim7.holds Tryz.pinned (.plain (OpenSpec.upto watchLastSpec)) watchLastUptoCard

/-- THE SECOND FORM's CARD OF 'sluicewaylaw14.WatchAlone'. -/
def watchAloneUptoCard : Claim7 := { stood := { row := watchAloneUptoRow, standIns := [], harness := (true, "71e376b789158c882cbf08ef6ea09733241b523c00aecce1c748a1905d0f92fd"), looks := true }, kinds := [], alts := [], laidByText := true, laidKinds := [.data, .data, .data, .data, .sentinel, .sentinel], laidTests := true, laidLooks := .later }
def WatchAloneUptoCardSaid : Prop := Claim7.holds Tryz.pinned (.plain (OpenSpec.upto watchAloneSpec)) watchAloneUptoCard

/-- THE SECOND FORM's CARD OF 'sluicewaylaw14.WatchKnown'. -/
def watchKnownUptoCard : Claim7 := { stood := { row := watchKnownUptoRow, standIns := [], harness := (true, "71e376b789158c882cbf08ef6ea09733241b523c00aecce1c748a1905d0f92fd"), looks := true }, kinds := [], alts := [], laidByText := true, laidKinds := [.data, .data, .data, .data, .sentinel, .sentinel], laidTests := true, laidLooks := .later }
def WatchKnownUptoCardSaid : Prop := Claim7.holds Tryz.pinned (.plain (OpenSpec.upto watchKnownSpec)) watchKnownUptoCard
end Rows
end Go.Proofs.YtfmckibiblhakaaGreatDoor
