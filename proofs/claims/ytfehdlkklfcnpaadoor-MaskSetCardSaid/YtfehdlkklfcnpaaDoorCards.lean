/-
  DERIVED. GIVEN WITH THE SEED: THE CARDS: each row of YtfehdlkklfcnpaaDoorRows.lean that lists a variable, with what it lists TIED to the program's text (the seventh form; the later family's looks); each row that meets fmt, with fmt's text TOLD by the authors' own Lean function (tested against real Go, not proved from fmt's source: count such statements apart). THE CARD IS WHAT COUNTS. Prove the row's statement (the work); the ties are given (YtfehdlkklfcnpaaDoorTie.lean); close each card by the builder's one call (the guide's Derived/Test/ToyasCard.lean, 'card_holds'). Laid BY PROGRAM, IN A SANDBOX (cutbox-door.mjs). By AI agents, Wed Nov 11 2026. No macro, syntax, notation, axiom, sorry.
-/
import Derived.Test.YtfehdlkklfcnpaaDoorRows
import GoSem.ClaimSeven
namespace Go.Proofs.YtfehdlkklfcnpaaDoor
namespace Rows

/-- THE TIED CARD OF 'lustrumlaw06.MaskIs'. -/
def maskIsCard : Claim7 := { stood := { row := maskIsRow, standIns := [], harness := (true, "3b96de8cf3ca739f64f1893f42f9052a0e5a74759990f4eb4eac7e29e8d76194"), looks := false }, kinds := [], alts := [], laidByText := true, laidKinds := [.data, .data, .data], laidTests := true, laidLooks := .later }
def MaskIsCardSaid : Prop := Claim7.holds Tryd.pinned (.plain (OpenSpec.ofChange maskIsSpec)) maskIsCard

/-- THE TIED CARD OF 'lustrumlaw06.MaskDigits'. -/
def maskDigitsCard : Claim7 := { stood := { row := maskDigitsRow, standIns := [], harness := (true, "3b96de8cf3ca739f64f1893f42f9052a0e5a74759990f4eb4eac7e29e8d76194"), looks := false }, kinds := [], alts := [], laidByText := true, laidKinds := [.data, .data, .data], laidTests := true, laidLooks := .later }
def MaskDigitsCardSaid : Prop := Claim7.holds Tryd.pinned (.plain (OpenSpec.ofChange maskDigitsSpec)) maskDigitsCard

/-- THE TIED CARD OF 'lustrumlaw06.MaskMeet'. -/
def maskMeetCard : Claim7 := { stood := { row := maskMeetRow, standIns := [], harness := (true, "3b96de8cf3ca739f64f1893f42f9052a0e5a74759990f4eb4eac7e29e8d76194"), looks := false }, kinds := [], alts := [], laidByText := true, laidKinds := [.data, .data, .data], laidTests := true, laidLooks := .later }
def MaskMeetCardSaid : Prop := Claim7.holds Tryd.pinned (.plain (OpenSpec.ofChange maskMeetSpec)) maskMeetCard

/-- THE TIED CARD OF 'lustrumlaw06.MaskRuns'. -/
def maskRunsCard : Claim7 := { stood := { row := maskRunsRow, standIns := [], harness := (true, "3b96de8cf3ca739f64f1893f42f9052a0e5a74759990f4eb4eac7e29e8d76194"), looks := false }, kinds := [], alts := [], laidByText := true, laidKinds := [.data, .data, .data], laidTests := true, laidLooks := .later }
def MaskRunsCardSaid : Prop := Claim7.holds Tryd.pinned (.plain (OpenSpec.ofChange maskRunsSpec)) maskRunsCard

/-- THE TIED CARD OF 'lustrumlaw06.MaskSet'. -/
def maskSetCard : Claim7 := { stood := { row := maskSetRow, standIns := [], harness := (true, "3b96de8cf3ca739f64f1893f42f9052a0e5a74759990f4eb4eac7e29e8d76194"), looks := false }, kinds := [], alts := [], laidByText := true, laidKinds := [.data, .data, .data], laidTests := true, laidLooks := .later }
def MaskSetCardSaid : Prop := Claim7.holds Tryd.pinned (.plain (OpenSpec.ofChange maskSetSpec)) maskSetCard

/-- THE SECOND FORM's CARD OF 'lustrumlaw06.MaskIs'. -/
def maskIsUptoCard : Claim7 := { stood := { row := maskIsUptoRow, standIns := [], harness := (true, "3b96de8cf3ca739f64f1893f42f9052a0e5a74759990f4eb4eac7e29e8d76194"), looks := false }, kinds := [], alts := [], laidByText := true, laidKinds := [.data, .data, .data], laidTests := true, laidLooks := .later }
def MaskIsUptoCardSaid : Prop := Claim7.holds Tryd.pinned (.plain (OpenSpec.upto maskIsSpec)) maskIsUptoCard

/-- THE SECOND FORM's CARD OF 'lustrumlaw06.MaskDigits'. -/
def maskDigitsUptoCard : Claim7 := { stood := { row := maskDigitsUptoRow, standIns := [], harness := (true, "3b96de8cf3ca739f64f1893f42f9052a0e5a74759990f4eb4eac7e29e8d76194"), looks := false }, kinds := [], alts := [], laidByText := true, laidKinds := [.data, .data, .data], laidTests := true, laidLooks := .later }
def MaskDigitsUptoCardSaid : Prop := Claim7.holds Tryd.pinned (.plain (OpenSpec.upto maskDigitsSpec)) maskDigitsUptoCard

/-- THE SECOND FORM's CARD OF 'lustrumlaw06.MaskMeet'. -/
def maskMeetUptoCard : Claim7 := { stood := { row := maskMeetUptoRow, standIns := [], harness := (true, "3b96de8cf3ca739f64f1893f42f9052a0e5a74759990f4eb4eac7e29e8d76194"), looks := false }, kinds := [], alts := [], laidByText := true, laidKinds := [.data, .data, .data], laidTests := true, laidLooks := .later }
def MaskMeetUptoCardSaid : Prop := Claim7.holds Tryd.pinned (.plain (OpenSpec.upto maskMeetSpec)) maskMeetUptoCard

/-- THE SECOND FORM's CARD OF 'lustrumlaw06.MaskRuns'. -/
def maskRunsUptoCard : Claim7 := { stood := { row := maskRunsUptoRow, standIns := [], harness := (true, "3b96de8cf3ca739f64f1893f42f9052a0e5a74759990f4eb4eac7e29e8d76194"), looks := false }, kinds := [], alts := [], laidByText := true, laidKinds := [.data, .data, .data], laidTests := true, laidLooks := .later }
def MaskRunsUptoCardSaid : Prop := Claim7.holds Tryd.pinned (.plain (OpenSpec.upto maskRunsSpec)) maskRunsUptoCard

/-- THE SECOND FORM's CARD OF 'lustrumlaw06.MaskSet'. -/
def maskSetUptoCard : Claim7 := { stood := { row := maskSetUptoRow, standIns := [], harness := (true, "3b96de8cf3ca739f64f1893f42f9052a0e5a74759990f4eb4eac7e29e8d76194"), looks := false }, kinds := [], alts := [], laidByText := true, laidKinds := [.data, .data, .data], laidTests := true, laidLooks := .later }
def MaskSetUptoCardSaid : Prop := Claim7.holds Tryd.pinned (.plain (OpenSpec.upto maskSetSpec)) maskSetUptoCard
end Rows
end Go.Proofs.YtfehdlkklfcnpaaDoor
