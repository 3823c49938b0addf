/-
  DERIVED. GIVEN WITH THE SEED: THE CARDS: each row of YthppfagfmjchoaaGreatDoorRows.lean that lists a variable, with what it lists TIED to the program's text (the seventh form; the later family's looks); each row that meets fmt, with fmt's text TOLD by the authors' own Lean function (tested against real Go, not proved from fmt's source: count such statements apart). THE CARD IS WHAT COUNTS. Prove the row's statement (the work); the ties are given (YthppfagfmjchoaaGreatDoorTie.lean); close each card by the builder's one call (the guide's Derived/Test/ToyasCard.lean, 'card_holds'). Laid BY PROGRAM, IN A SANDBOX (cutbox-door.mjs). By AI agents, Wed Nov 11 2026. No macro, syntax, notation, axiom, sorry.
-/
import Derived.Test.YthppfagfmjchoaaGreatDoorRows
import GoSem.ClaimSeven
namespace Go.Proofs.YthppfagfmjchoaaGreatDoor
namespace Rows

/-- THE TIED CARD OF 'lustrumlaw08.PointIs'. -/
def pointIsCard : Claim7 := { stood := { row := pointIsRow, standIns := [], harness := (true, "0fa6d12a99b147ae704e1b44fdd6e724333617e8020d5bef4b0b70be52bba633"), looks := true }, kinds := [], alts := [], laidByText := true, laidKinds := [.data], laidTests := true, laidLooks := .later }
def PointIsCardSaid : Prop := Claim7.holds Tryz.pinned (.plain (OpenSpec.ofChange pointIsSpec)) pointIsCard

/-- THE TIED CARD OF 'lustrumlaw15.DenoteIs'. -/
def denoteIsCard : Claim7 := { stood := { row := denoteIsRow, standIns := [], harness := (true, "0fa6d12a99b147ae704e1b44fdd6e724333617e8020d5bef4b0b70be52bba633"), looks := true }, kinds := [], alts := [], laidByText := true, laidKinds := [.data], laidTests := true, laidLooks := .later }
def DenoteIsCardSaid : Prop := Claim7.holds Tryz.pinned (.plain (OpenSpec.ofChange denoteIsSpec)) denoteIsCard

/-- THE TIED CARD OF 'lustrumlaw15.DenoteSane'. -/
def denoteSaneCard : Claim7 := { stood := { row := denoteSaneRow, standIns := [], harness := (true, "0fa6d12a99b147ae704e1b44fdd6e724333617e8020d5bef4b0b70be52bba633"), looks := true }, kinds := [], alts := [], laidByText := true, laidKinds := [.data], laidTests := true, laidLooks := .later }
def DenoteSaneCardSaid : Prop := Claim7.holds Tryz.pinned (.plain (OpenSpec.ofChange denoteSaneSpec)) denoteSaneCard

/-- THE TIED CARD OF 'lustrumlaw15.DenotePoint'. -/
def denotePointCard : Claim7 := { stood := { row := denotePointRow, standIns := [], harness := (true, "0fa6d12a99b147ae704e1b44fdd6e724333617e8020d5bef4b0b70be52bba633"), looks := true }, kinds := [], alts := [], laidByText := true, laidKinds := [.data], laidTests := true, laidLooks := .later }
def DenotePointCardSaid : Prop := Claim7.holds Tryz.pinned (.plain (OpenSpec.ofChange denotePointSpec)) denotePointCard

/-- THE TIED CARD OF 'lustrumlaw15.DenoteSpan'. -/
def denoteSpanCard : Claim7 := { stood := { row := denoteSpanRow, standIns := [], harness := (true, "0fa6d12a99b147ae704e1b44fdd6e724333617e8020d5bef4b0b70be52bba633"), looks := true }, kinds := [], alts := [], laidByText := true, laidKinds := [.data], laidTests := true, laidLooks := .later }
def DenoteSpanCardSaid : Prop := Claim7.holds Tryz.pinned (.plain (OpenSpec.ofChange denoteSpanSpec)) denoteSpanCard

/-- THE TIED CARD OF 'lustrumlaw15.DenoteList'. -/
def denoteListCard : Claim7 := { stood := { row := denoteListRow, standIns := [], harness := (true, "0fa6d12a99b147ae704e1b44fdd6e724333617e8020d5bef4b0b70be52bba633"), looks := true }, kinds := [], alts := [], laidByText := true, laidKinds := [.data], laidTests := true, laidLooks := .later }
def DenoteListCardSaid : Prop := Claim7.holds Tryz.pinned (.plain (OpenSpec.ofChange denoteListSpec)) denoteListCard

/-- THE TIED CARD OF 'lustrumlaw15.DenoteCanon'. -/
def denoteCanonCard : Claim7 := { stood := { row := denoteCanonRow, standIns := [], harness := (true, "0fa6d12a99b147ae704e1b44fdd6e724333617e8020d5bef4b0b70be52bba633"), looks := true }, kinds := [], alts := [], laidByText := true, laidKinds := [.data], laidTests := true, laidLooks := .later }
def DenoteCanonCardSaid : Prop := Claim7.holds Tryz.pinned (.plain (OpenSpec.ofChange denoteCanonSpec)) denoteCanonCard

/-- THE TIED CARD OF 'lustrumlaw08.PointUnits'. -/
def pointUnitsCard : Claim7 := { stood := { row := pointUnitsRow, standIns := [], harness := (true, "0fa6d12a99b147ae704e1b44fdd6e724333617e8020d5bef4b0b70be52bba633"), looks := true }, kinds := [], alts := [], laidByText := true, laidKinds := [.data, .data, .data, .data], laidTests := true, laidLooks := .later }
def PointUnitsCardSaid : Prop := Claim7.holds Tryz.pinned (.plain (OpenSpec.ofChange pointUnitsSpec)) pointUnitsCard

/-- THE SECOND FORM's CARD OF 'lustrumlaw08.PointIs'. -/
def pointIsUptoCard : Claim7 := { stood := { row := pointIsUptoRow, standIns := [], harness := (true, "0fa6d12a99b147ae704e1b44fdd6e724333617e8020d5bef4b0b70be52bba633"), looks := true }, kinds := [], alts := [], laidByText := true, laidKinds := [.data], laidTests := true, laidLooks := .later }
def PointIsUptoCardSaid : Prop := Claim7.holds Tryz.pinned (.plain (OpenSpec.upto pointIsSpec)) pointIsUptoCard

/-- THE SECOND FORM's CARD OF 'lustrumlaw15.DenoteIs'. -/
def denoteIsUptoCard : Claim7 := { stood := { row := denoteIsUptoRow, standIns := [], harness := (true, "0fa6d12a99b147ae704e1b44fdd6e724333617e8020d5bef4b0b70be52bba633"), looks := true }, kinds := [], alts := [], laidByText := true, laidKinds := [.data], laidTests := true, laidLooks := .later }
def DenoteIsUptoCardSaid : Prop := Claim7.holds Tryz.pinned (.plain (OpenSpec.upto denoteIsSpec)) denoteIsUptoCard

/-- THE SECOND FORM's CARD OF 'lustrumlaw15.DenoteSane'. -/
def denoteSaneUptoCard : Claim7 := { stood := { row := denoteSaneUptoRow, standIns := [], harness := (true, "0fa6d12a99b147ae704e1b44fdd6e724333617e8020d5bef4b0b70be52bba633"), looks := true }, kinds := [], alts := [], laidByText := true, laidKinds := [.data], laidTests := true, laidLooks := .later }
def DenoteSaneUptoCardSaid : Prop := Claim7.holds Tryz.pinned (.plain (OpenSpec.upto denoteSaneSpec)) denoteSaneUptoCard

/-- THE SECOND FORM's CARD OF 'lustrumlaw15.DenotePoint'. -/
def denotePointUptoCard : Claim7 := { stood := { row := denotePointUptoRow, standIns := [], harness := (true, "0fa6d12a99b147ae704e1b44fdd6e724333617e8020d5bef4b0b70be52bba633"), looks := true }, kinds := [], alts := [], laidByText := true, laidKinds := [.data], laidTests := true, laidLooks := .later }
def DenotePointUptoCardSaid : Prop := Claim7.holds Tryz.pinned (.plain (OpenSpec.upto denotePointSpec)) denotePointUptoCard

/-- THE SECOND FORM's CARD OF 'lustrumlaw15.DenoteSpan'. -/
def denoteSpanUptoCard : Claim7 := { stood := { row := denoteSpanUptoRow, standIns := [], harness := (true, "0fa6d12a99b147ae704e1b44fdd6e724333617e8020d5bef4b0b70be52bba633"), looks := true }, kinds := [], alts := [], laidByText := true, laidKinds := [.data], laidTests := true, laidLooks := .later }
def DenoteSpanUptoCardSaid : Prop := Claim7.holds Tryz.pinned (.plain (OpenSpec.upto denoteSpanSpec)) denoteSpanUptoCard

/-- THE SECOND FORM's CARD OF 'lustrumlaw15.DenoteList'. -/
def denoteListUptoCard : Claim7 := { stood := { row := denoteListUptoRow, standIns := [], harness := (true, "0fa6d12a99b147ae704e1b44fdd6e724333617e8020d5bef4b0b70be52bba633"), looks := true }, kinds := [], alts := [], laidByText := true, laidKinds := [.data], laidTests := true, laidLooks := .later }
def DenoteListUptoCardSaid : Prop := Claim7.holds Tryz.pinned (.plain (OpenSpec.upto denoteListSpec)) denoteListUptoCard

/-- THE SECOND FORM's CARD OF 'lustrumlaw15.DenoteCanon'. -/
def denoteCanonUptoCard : Claim7 := { stood := { row := denoteCanonUptoRow, standIns := [], harness := (true, "0fa6d12a99b147ae704e1b44fdd6e724333617e8020d5bef4b0b70be52bba633"), looks := true }, kinds := [], alts := [], laidByText := true, laidKinds := [.data], laidTests := true, laidLooks := .later }
def DenoteCanonUptoCardSaid : Prop := Claim7.holds Tryz.pinned (.plain (OpenSpec.upto denoteCanonSpec)) denoteCanonUptoCard

/-- THE SECOND FORM's CARD OF 'lustrumlaw08.PointUnits'. -/
def pointUnitsUptoCard : Claim7 := { stood := { row := pointUnitsUptoRow, standIns := [], harness := (true, "0fa6d12a99b147ae704e1b44fdd6e724333617e8020d5bef4b0b70be52bba633"), looks := true }, kinds := [], alts := [], laidByText := true, laidKinds := [.data, .data, .data, .data], laidTests := true, laidLooks := .later }
def PointUnitsUptoCardSaid : Prop := Claim7.holds Tryz.pinned (.plain (OpenSpec.upto pointUnitsSpec)) pointUnitsUptoCard
end Rows
end Go.Proofs.YthppfagfmjchoaaGreatDoor
