/-
  DERIVED. GIVEN WITH THE SEED: THE CARDS: each row of YtchbhainmalbbaaDoorRows.lean that lists a variable, with what it lists TIED to the program's text (the seventh form; the later family's looks); each row that meets fmt, with fmt's text TOLD by the authors' own Lean function (tested against real Go, not proved from fmt's source: count such statements apart). THE CARD IS WHAT COUNTS. Prove the row's statement (the work); the ties are given (YtchbhainmalbbaaDoorTie.lean); close each card by the builder's one call (the guide's Derived/Test/ToyasCard.lean, 'card_holds'). Laid BY PROGRAM, IN A SANDBOX (cutbox-door.mjs). By AI agents, Wed Nov 11 2026. No macro, syntax, notation, axiom, sorry.
-/
import Derived.Test.YtchbhainmalbbaaDoorRows
import GoSem.ClaimSeven
namespace Go.Proofs.YtchbhainmalbbaaDoor
namespace Rows

/-- THE TIED CARD OF 'sluicewaylaw16.KeysMakes'. -/
def keysMakesCard : Claim7 := { stood := { row := keysMakesRow, standIns := [], harness := (true, "3bbcc7c828590cc486e12d8880052048a70c26aada623397d45d709b10d8ca2d"), looks := true }, kinds := [], alts := [], laidByText := true, laidKinds := [.data, .data, .data, .sentinel, .sentinel, .data], laidTests := true, laidLooks := .later }
def KeysMakesCardSaid : Prop := Claim7.holds Tryd.pinned (.plain (OpenSpec.ofChange keysMakesSpec)) keysMakesCard

/-- THE TIED CARD OF 'sluicewaylaw16.KeysSets'. -/
def keysSetsCard : Claim7 := { stood := { row := keysSetsRow, standIns := [], harness := (true, "3bbcc7c828590cc486e12d8880052048a70c26aada623397d45d709b10d8ca2d"), looks := true }, kinds := [], alts := [], laidByText := true, laidKinds := [.data, .data, .data, .sentinel, .sentinel, .data], laidTests := true, laidLooks := .later }
def KeysSetsCardSaid : Prop := Claim7.holds Tryd.pinned (.plain (OpenSpec.ofChange keysSetsSpec)) keysSetsCard

/-- THE TIED CARD OF 'sluicewaylaw16.KeysPoints'. -/
def keysPointsCard : Claim7 := { stood := { row := keysPointsRow, standIns := [], harness := (true, "3bbcc7c828590cc486e12d8880052048a70c26aada623397d45d709b10d8ca2d"), looks := true }, kinds := [], alts := [], laidByText := true, laidKinds := [.data, .data, .data, .sentinel, .sentinel, .data], laidTests := true, laidLooks := .later }
def KeysPointsCardSaid : Prop := Claim7.holds Tryd.pinned (.plain (OpenSpec.ofChange keysPointsSpec)) keysPointsCard

/-- THE TIED CARD OF 'sluicewaylaw16.KeysFit'. -/
def keysFitCard : Claim7 := { stood := { row := keysFitRow, standIns := [], harness := (true, "3bbcc7c828590cc486e12d8880052048a70c26aada623397d45d709b10d8ca2d"), looks := true }, kinds := [], alts := [], laidByText := true, laidKinds := [.data, .data, .data, .sentinel, .sentinel, .data], laidTests := true, laidLooks := .later }
def KeysFitCardSaid : Prop := Claim7.holds Tryd.pinned (.plain (OpenSpec.ofChange keysFitSpec)) keysFitCard

/-- THE TIED CARD OF 'sluicewaylaw21.SessionNone'. -/
def sessionNoneCard : Claim7 := { stood := { row := sessionNoneRow, standIns := [], harness := (true, "3bbcc7c828590cc486e12d8880052048a70c26aada623397d45d709b10d8ca2d"), looks := true }, kinds := [], alts := [], laidByText := true, laidKinds := [.data, .data, .data, .sentinel, .sentinel], laidTests := true, laidLooks := .later }
def SessionNoneCardSaid : Prop := Claim7.holds Tryd.pinned (.plain (OpenSpec.ofChange sessionNoneSpec)) sessionNoneCard

/-- THE TIED CARD OF 'sluicewaylaw21.SessionTalks'. -/
def sessionTalksCard : Claim7 := { stood := { row := sessionTalksRow, standIns := [], harness := (true, "3bbcc7c828590cc486e12d8880052048a70c26aada623397d45d709b10d8ca2d"), looks := true }, kinds := [], alts := [], laidByText := true, laidKinds := [.data, .data, .data, .sentinel, .sentinel], laidTests := true, laidLooks := .later }
def SessionTalksCardSaid : Prop := Claim7.holds Tryd.pinned (.plain (OpenSpec.ofChange sessionTalksSpec)) sessionTalksCard

/-- THE TIED CARD OF 'sluicewaylaw21.SessionMiddle'. -/
def sessionMiddleCard : Claim7 := { stood := { row := sessionMiddleRow, standIns := [], harness := (true, "3bbcc7c828590cc486e12d8880052048a70c26aada623397d45d709b10d8ca2d"), looks := true }, kinds := [], alts := [], laidByText := true, laidKinds := [.data, .data, .data, .sentinel, .sentinel], laidTests := true, laidLooks := .later }
def SessionMiddleCardSaid : Prop := Claim7.holds Tryd.pinned (.plain (OpenSpec.ofChange sessionMiddleSpec)) sessionMiddleCard

/-- THE TIED CARD OF 'sluicewaylaw16.KeysSecret'. -/
def keysSecretCard : Claim7 := { stood := { row := keysSecretRow, standIns := [], harness := (true, "3bbcc7c828590cc486e12d8880052048a70c26aada623397d45d709b10d8ca2d"), looks := true }, kinds := [], alts := [], laidByText := true, laidKinds := [.data, .data, .data, .sentinel, .sentinel, .data], laidTests := true, laidLooks := .later }
def KeysSecretCardSaid : Prop := Claim7.holds Tryd.pinned (.plain (OpenSpec.ofChange keysSecretSpec)) keysSecretCard

/-- THE SECOND FORM's CARD OF 'sluicewaylaw16.KeysMakes'. -/
def keysMakesUptoCard : Claim7 := { stood := { row := keysMakesUptoRow, standIns := [], harness := (true, "3bbcc7c828590cc486e12d8880052048a70c26aada623397d45d709b10d8ca2d"), looks := true }, kinds := [], alts := [], laidByText := true, laidKinds := [.data, .data, .data, .sentinel, .sentinel, .data], laidTests := true, laidLooks := .later }
def KeysMakesUptoCardSaid : Prop := Claim7.holds Tryd.pinned (.plain (OpenSpec.upto keysMakesSpec)) keysMakesUptoCard

/-- THE SECOND FORM's CARD OF 'sluicewaylaw16.KeysSets'. -/
def keysSetsUptoCard : Claim7 := { stood := { row := keysSetsUptoRow, standIns := [], harness := (true, "3bbcc7c828590cc486e12d8880052048a70c26aada623397d45d709b10d8ca2d"), looks := true }, kinds := [], alts := [], laidByText := true, laidKinds := [.data, .data, .data, .sentinel, .sentinel, .data], laidTests := true, laidLooks := .later }
def KeysSetsUptoCardSaid : Prop := Claim7.holds Tryd.pinned (.plain (OpenSpec.upto keysSetsSpec)) keysSetsUptoCard

/-- THE SECOND FORM's CARD OF 'sluicewaylaw16.KeysPoints'. -/
def keysPointsUptoCard : Claim7 := { stood := { row := keysPointsUptoRow, standIns := [], harness := (true, "3bbcc7c828590cc486e12d8880052048a70c26aada623397d45d709b10d8ca2d"), looks := true }, kinds := [], alts := [], laidByText := true, laidKinds := [.data, .data, .data, .sentinel, .sentinel, .data], laidTests := true, laidLooks := .later }
def KeysPointsUptoCardSaid : Prop := Claim7.holds Tryd.pinned (.plain (OpenSpec.upto keysPointsSpec)) keysPointsUptoCard

/-- THE SECOND FORM's CARD OF 'sluicewaylaw16.KeysFit'. -/
def keysFitUptoCard : Claim7 := { stood := { row := keysFitUptoRow, standIns := [], harness := (true, "3bbcc7c828590cc486e12d8880052048a70c26aada623397d45d709b10d8ca2d"), looks := true }, kinds := [], alts := [], laidByText := true, laidKinds := [.data, .data, .data, .sentinel, .sentinel, .data], laidTests := true, laidLooks := .later }
def KeysFitUptoCardSaid : Prop := Claim7.holds Tryd.pinned (.plain (OpenSpec.upto keysFitSpec)) keysFitUptoCard

/-- THE SECOND FORM's CARD OF 'sluicewaylaw21.SessionNone'. -/
def sessionNoneUptoCard : Claim7 := { stood := { row := sessionNoneUptoRow, standIns := [], harness := (true, "3bbcc7c828590cc486e12d8880052048a70c26aada623397d45d709b10d8ca2d"), looks := true }, kinds := [], alts := [], laidByText := true, laidKinds := [.data, .data, .data, .sentinel, .sentinel], laidTests := true, laidLooks := .later }
def SessionNoneUptoCardSaid : Prop := Claim7.holds Tryd.pinned (.plain (OpenSpec.upto sessionNoneSpec)) sessionNoneUptoCard

/-- THE SECOND FORM's CARD OF 'sluicewaylaw21.SessionTalks'. -/
def sessionTalksUptoCard : Claim7 := { stood := { row := sessionTalksUptoRow, standIns := [], harness := (true, "3bbcc7c828590cc486e12d8880052048a70c26aada623397d45d709b10d8ca2d"), looks := true }, kinds := [], alts := [], laidByText := true, laidKinds := [.data, .data, .data, .sentinel, .sentinel], laidTests := true, laidLooks := .later }
def SessionTalksUptoCardSaid : Prop := Claim7.holds Tryd.pinned (.plain (OpenSpec.upto sessionTalksSpec)) sessionTalksUptoCard

/-- THE SECOND FORM's CARD OF 'sluicewaylaw21.SessionMiddle'. -/
def sessionMiddleUptoCard : Claim7 := { stood := { row := sessionMiddleUptoRow, standIns := [], harness := (true, "3bbcc7c828590cc486e12d8880052048a70c26aada623397d45d709b10d8ca2d"), looks := true }, kinds := [], alts := [], laidByText := true, laidKinds := [.data, .data, .data, .sentinel, .sentinel], laidTests := true, laidLooks := .later }
def SessionMiddleUptoCardSaid : Prop := Claim7.holds Tryd.pinned (.plain (OpenSpec.upto sessionMiddleSpec)) sessionMiddleUptoCard

/-- THE SECOND FORM's CARD OF 'sluicewaylaw16.KeysSecret'. -/
def keysSecretUptoCard : Claim7 := { stood := { row := keysSecretUptoRow, standIns := [], harness := (true, "3bbcc7c828590cc486e12d8880052048a70c26aada623397d45d709b10d8ca2d"), looks := true }, kinds := [], alts := [], laidByText := true, laidKinds := [.data, .data, .data, .sentinel, .sentinel, .data], laidTests := true, laidLooks := .later }
def KeysSecretUptoCardSaid : Prop := Claim7.holds Tryd.pinned (.plain (OpenSpec.upto keysSecretSpec)) keysSecretUptoCard
end Rows
end Go.Proofs.YtchbhainmalbbaaDoor
