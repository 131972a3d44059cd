/-
  DERIVED. GIVEN WITH THE SEED: THE CARDS: each row of YtdipkblmcloifaaGreatDoorRows.lean that lists a variable, with what it lists TIED to the program's text (the seventh form; the later family's looks); each row that meets fmt, with fmt's text TOLD by the authors' own Lean function (tested against real Go, not proved from fmt's source: count such statements apart). THE CARD IS WHAT COUNTS. Prove the row's statement (the work); the ties are given (YtdipkblmcloifaaGreatDoorTie.lean); close each card by the builder's one call (the guide's Derived/Test/ToyasCard.lean, 'card_holds'). Laid BY PROGRAM, IN A SANDBOX (cutbox-door.mjs). By AI agents, Wed Nov 11 2026. No macro, syntax, notation, axiom, sorry.
-/
import Derived.Test.YtdipkblmcloifaaGreatDoorRows
import GoSem.ClaimSeven
namespace Go.Proofs.YtdipkblmcloifaaGreatDoor
namespace Rows

/-- THE TIED CARD OF 'sluicewaylaw03.DeduceKnows'. -/
def deduceKnowsCard : Claim7 := { stood := { row := deduceKnowsRow, standIns := [], harness := (true, "e7a88ffd147772fe1c7e831559f31f5c5f6c838ebe6e46bccd8b1575a98f516b"), looks := true }, kinds := [], alts := [], laidByText := true, laidKinds := [.data, .data, .data, .sentinel, .sentinel], laidTests := true, laidLooks := .later }
def DeduceKnowsCardSaid : Prop := Claim7.holds Tryz.pinned (.plain (OpenSpec.ofChange deduceKnowsSpec)) deduceKnowsCard

/-- THE TIED CARD OF 'sluicewaylaw03.DeduceCopies'. -/
def deduceCopiesCard : Claim7 := { stood := { row := deduceCopiesRow, standIns := [], harness := (true, "e7a88ffd147772fe1c7e831559f31f5c5f6c838ebe6e46bccd8b1575a98f516b"), looks := true }, kinds := [], alts := [], laidByText := true, laidKinds := [.data, .data, .data, .sentinel, .sentinel], laidTests := true, laidLooks := .later }
def DeduceCopiesCardSaid : Prop := Claim7.holds Tryz.pinned (.plain (OpenSpec.ofChange deduceCopiesSpec)) deduceCopiesCard

/-- THE TIED CARD OF 'sluicewaylaw03.DeduceNone'. -/
def deduceNoneCard : Claim7 := { stood := { row := deduceNoneRow, standIns := [], harness := (true, "e7a88ffd147772fe1c7e831559f31f5c5f6c838ebe6e46bccd8b1575a98f516b"), looks := true }, kinds := [], alts := [], laidByText := true, laidKinds := [.data, .data, .data, .sentinel, .sentinel], laidTests := true, laidLooks := .later }
def DeduceNoneCardSaid : Prop := Claim7.holds Tryz.pinned (.plain (OpenSpec.ofChange deduceNoneSpec)) deduceNoneCard

/-- THE TIED CARD OF 'sluicewaylaw03.DeduceFresh'. -/
def deduceFreshCard : Claim7 := { stood := { row := deduceFreshRow, standIns := [], harness := (true, "e7a88ffd147772fe1c7e831559f31f5c5f6c838ebe6e46bccd8b1575a98f516b"), looks := true }, kinds := [], alts := [], laidByText := true, laidKinds := [.data, .data, .data, .sentinel, .sentinel], laidTests := true, laidLooks := .later }
def DeduceFreshCardSaid : Prop := Claim7.holds Tryz.pinned (.plain (OpenSpec.ofChange deduceFreshSpec)) deduceFreshCard

/-- THE TIED CARD OF 'sluicewaylaw03.DeduceHides'. -/
def deduceHidesCard : Claim7 := { stood := { row := deduceHidesRow, standIns := [], harness := (true, "e7a88ffd147772fe1c7e831559f31f5c5f6c838ebe6e46bccd8b1575a98f516b"), looks := true }, kinds := [], alts := [], laidByText := true, laidKinds := [.data, .data, .data, .sentinel, .sentinel], laidTests := true, laidLooks := .later }
def DeduceHidesCardSaid : Prop := Claim7.holds Tryz.pinned (.plain (OpenSpec.ofChange deduceHidesSpec)) deduceHidesCard

/-- THE TIED CARD OF 'sluicewaylaw03.DeduceMore'. -/
def deduceMoreCard : Claim7 := { stood := { row := deduceMoreRow, standIns := [], harness := (true, "e7a88ffd147772fe1c7e831559f31f5c5f6c838ebe6e46bccd8b1575a98f516b"), looks := true }, kinds := [], alts := [], laidByText := true, laidKinds := [.data, .data, .data, .sentinel, .sentinel], laidTests := true, laidLooks := .later }
def DeduceMoreCardSaid : Prop := Claim7.holds Tryz.pinned (.plain (OpenSpec.ofChange deduceMoreSpec)) deduceMoreCard

/-- THE TIED CARD OF 'sluicewaylaw03.DeduceKnown'. -/
def deduceKnownCard : Claim7 := { stood := { row := deduceKnownRow, standIns := [], harness := (true, "e7a88ffd147772fe1c7e831559f31f5c5f6c838ebe6e46bccd8b1575a98f516b"), looks := true }, kinds := [], alts := [], laidByText := true, laidKinds := [.data, .data, .data, .sentinel, .sentinel], laidTests := true, laidLooks := .later }
def DeduceKnownCardSaid : Prop := Claim7.holds Tryz.pinned (.plain (OpenSpec.ofChange deduceKnownSpec)) deduceKnownCard

/-- THE SECOND FORM's CARD OF 'sluicewaylaw03.DeduceKnows'. -/
def deduceKnowsUptoCard : Claim7 := { stood := { row := deduceKnowsUptoRow, standIns := [], harness := (true, "e7a88ffd147772fe1c7e831559f31f5c5f6c838ebe6e46bccd8b1575a98f516b"), looks := true }, kinds := [], alts := [], laidByText := true, laidKinds := [.data, .data, .data, .sentinel, .sentinel], laidTests := true, laidLooks := .later }
def DeduceKnowsUptoCardSaid : Prop := Claim7.holds Tryz.pinned (.plain (OpenSpec.upto deduceKnowsSpec)) deduceKnowsUptoCard

/-- THE SECOND FORM's CARD OF 'sluicewaylaw03.DeduceCopies'. -/
def deduceCopiesUptoCard : Claim7 := { stood := { row := deduceCopiesUptoRow, standIns := [], harness := (true, "e7a88ffd147772fe1c7e831559f31f5c5f6c838ebe6e46bccd8b1575a98f516b"), looks := true }, kinds := [], alts := [], laidByText := true, laidKinds := [.data, .data, .data, .sentinel, .sentinel], laidTests := true, laidLooks := .later }
def DeduceCopiesUptoCardSaid : Prop := Claim7.holds Tryz.pinned (.plain (OpenSpec.upto deduceCopiesSpec)) deduceCopiesUptoCard

/-- THE SECOND FORM's CARD OF 'sluicewaylaw03.DeduceNone'. -/
def deduceNoneUptoCard : Claim7 := { stood := { row := deduceNoneUptoRow, standIns := [], harness := (true, "e7a88ffd147772fe1c7e831559f31f5c5f6c838ebe6e46bccd8b1575a98f516b"), looks := true }, kinds := [], alts := [], laidByText := true, laidKinds := [.data, .data, .data, .sentinel, .sentinel], laidTests := true, laidLooks := .later }
def DeduceNoneUptoCardSaid : Prop := Claim7.holds Tryz.pinned (.plain (OpenSpec.upto deduceNoneSpec)) deduceNoneUptoCard

/-- THE SECOND FORM's CARD OF 'sluicewaylaw03.DeduceFresh'. -/
def deduceFreshUptoCard : Claim7 := { stood := { row := deduceFreshUptoRow, standIns := [], harness := (true, "e7a88ffd147772fe1c7e831559f31f5c5f6c838ebe6e46bccd8b1575a98f516b"), looks := true }, kinds := [], alts := [], laidByText := true, laidKinds := [.data, .data, .data, .sentinel, .sentinel], laidTests := true, laidLooks := .later }
def DeduceFreshUptoCardSaid : Prop := Claim7.holds Tryz.pinned (.plain (OpenSpec.upto deduceFreshSpec)) deduceFreshUptoCard

/-- THE SECOND FORM's CARD OF 'sluicewaylaw03.DeduceHides'. -/
def deduceHidesUptoCard : Claim7 := { stood := { row := deduceHidesUptoRow, standIns := [], harness := (true, "e7a88ffd147772fe1c7e831559f31f5c5f6c838ebe6e46bccd8b1575a98f516b"), looks := true }, kinds := [], alts := [], laidByText := true, laidKinds := [.data, .data, .data, .sentinel, .sentinel], laidTests := true, laidLooks := .later }
def DeduceHidesUptoCardSaid : Prop := Claim7.holds Tryz.pinned (.plain (OpenSpec.upto deduceHidesSpec)) deduceHidesUptoCard

/-- THE SECOND FORM's CARD OF 'sluicewaylaw03.DeduceMore'. -/
def deduceMoreUptoCard : Claim7 := { stood := { row := deduceMoreUptoRow, standIns := [], harness := (true, "e7a88ffd147772fe1c7e831559f31f5c5f6c838ebe6e46bccd8b1575a98f516b"), looks := true }, kinds := [], alts := [], laidByText := true, laidKinds := [.data, .data, .data, .sentinel, .sentinel], laidTests := true, laidLooks := .later }
def DeduceMoreUptoCardSaid : Prop := Claim7.holds Tryz.pinned (.plain (OpenSpec.upto deduceMoreSpec)) deduceMoreUptoCard

/-- THE SECOND FORM's CARD OF 'sluicewaylaw03.DeduceKnown'. -/
def deduceKnownUptoCard : Claim7 := { stood := { row := deduceKnownUptoRow, standIns := [], harness := (true, "e7a88ffd147772fe1c7e831559f31f5c5f6c838ebe6e46bccd8b1575a98f516b"), looks := true }, kinds := [], alts := [], laidByText := true, laidKinds := [.data, .data, .data, .sentinel, .sentinel], laidTests := true, laidLooks := .later }
def DeduceKnownUptoCardSaid : Prop := Claim7.holds Tryz.pinned (.plain (OpenSpec.upto deduceKnownSpec)) deduceKnownUptoCard
end Rows
end Go.Proofs.YtdipkblmcloifaaGreatDoor
