/-
  DERIVED. GIVEN WITH THE SEED: THE CARDS: each row of YthppfagfmjchoaaDoorRows.lean that lists a variable, with what it lists TIED to the program's text (the seventh form; the later family's looks); each row that meets fmt, with fmt's text TOLD by the authors' own Lean function (tested against real Go, not proved from fmt's source: count such statements apart). THE CARD IS WHAT COUNTS. Prove the row's statement (the work); the ties are given (YthppfagfmjchoaaDoorTie.lean); close each card by the builder's one call (the guide's Derived/Test/ToyasCard.lean, 'card_holds'). Laid BY PROGRAM, IN A SANDBOX (cutbox-door.mjs). By AI agents, Wed Nov 11 2026. No macro, syntax, notation, axiom, sorry.
-/
import Derived.Test.YthppfagfmjchoaaDoorRows
import GoSem.ClaimSeven
namespace Go.Proofs.YthppfagfmjchoaaDoor
namespace Rows

/-- THE TIED CARD OF 'lustrumlaw08.PointBack'. -/
def pointBackCard : Claim7 := { stood := { row := pointBackRow, standIns := [], harness := (true, "a93b154b1fa33d55c53d5eae526c67cb6d6a5b5f7f802dbdff7eda613c64f54a"), looks := false }, kinds := [], alts := [], laidByText := true, laidKinds := [.data], laidTests := true, laidLooks := .later }
def PointBackCardSaid : Prop := Claim7.holds Tryd.pinned (.plain (OpenSpec.ofChange pointBackSpec)) pointBackCard

/-- THE TIED CARD OF 'lustrumlaw08.PointOnly'. -/
def pointOnlyCard : Claim7 := { stood := { row := pointOnlyRow, standIns := [], harness := (true, "a93b154b1fa33d55c53d5eae526c67cb6d6a5b5f7f802dbdff7eda613c64f54a"), looks := false }, kinds := [], alts := [], laidByText := true, laidKinds := [.data], laidTests := true, laidLooks := .later }
def PointOnlyCardSaid : Prop := Claim7.holds Tryd.pinned (.plain (OpenSpec.ofChange pointOnlySpec)) pointOnlyCard

/-- THE TIED CARD OF 'lustrumlaw08.PointHidden'. -/
def pointHiddenCard : Claim7 := { stood := { row := pointHiddenRow, standIns := [], harness := (true, "a93b154b1fa33d55c53d5eae526c67cb6d6a5b5f7f802dbdff7eda613c64f54a"), looks := false }, kinds := [], alts := [], laidByText := true, laidKinds := [.data], laidTests := true, laidLooks := .later }
def PointHiddenCardSaid : Prop := Claim7.holds Tryd.pinned (.plain (OpenSpec.ofChange pointHiddenSpec)) pointHiddenCard

/-- THE TIED CARD OF 'lustrumlaw08.PointNear'. -/
def pointNearCard : Claim7 := { stood := { row := pointNearRow, standIns := [], harness := (true, "a93b154b1fa33d55c53d5eae526c67cb6d6a5b5f7f802dbdff7eda613c64f54a"), looks := false }, kinds := [], alts := [], laidByText := true, laidKinds := [.data], laidTests := true, laidLooks := .later }
def PointNearCardSaid : Prop := Claim7.holds Tryd.pinned (.plain (OpenSpec.ofChange pointNearSpec)) pointNearCard

/-- THE SECOND FORM's CARD OF 'lustrumlaw08.PointBack'. -/
def pointBackUptoCard : Claim7 := { stood := { row := pointBackUptoRow, standIns := [], harness := (true, "a93b154b1fa33d55c53d5eae526c67cb6d6a5b5f7f802dbdff7eda613c64f54a"), looks := false }, kinds := [], alts := [], laidByText := true, laidKinds := [.data], laidTests := true, laidLooks := .later }
def PointBackUptoCardSaid : Prop := Claim7.holds Tryd.pinned (.plain (OpenSpec.upto pointBackSpec)) pointBackUptoCard

/-- THE SECOND FORM's CARD OF 'lustrumlaw08.PointOnly'. -/
def pointOnlyUptoCard : Claim7 := { stood := { row := pointOnlyUptoRow, standIns := [], harness := (true, "a93b154b1fa33d55c53d5eae526c67cb6d6a5b5f7f802dbdff7eda613c64f54a"), looks := false }, kinds := [], alts := [], laidByText := true, laidKinds := [.data], laidTests := true, laidLooks := .later }
def PointOnlyUptoCardSaid : Prop := Claim7.holds Tryd.pinned (.plain (OpenSpec.upto pointOnlySpec)) pointOnlyUptoCard

/-- THE SECOND FORM's CARD OF 'lustrumlaw08.PointHidden'. -/
def pointHiddenUptoCard : Claim7 := { stood := { row := pointHiddenUptoRow, standIns := [], harness := (true, "a93b154b1fa33d55c53d5eae526c67cb6d6a5b5f7f802dbdff7eda613c64f54a"), looks := false }, kinds := [], alts := [], laidByText := true, laidKinds := [.data], laidTests := true, laidLooks := .later }
def PointHiddenUptoCardSaid : Prop := Claim7.holds Tryd.pinned (.plain (OpenSpec.upto pointHiddenSpec)) pointHiddenUptoCard

/-- THE SECOND FORM's CARD OF 'lustrumlaw08.PointNear'. -/
def pointNearUptoCard : Claim7 := { stood := { row := pointNearUptoRow, standIns := [], harness := (true, "a93b154b1fa33d55c53d5eae526c67cb6d6a5b5f7f802dbdff7eda613c64f54a"), looks := false }, kinds := [], alts := [], laidByText := true, laidKinds := [.data], laidTests := true, laidLooks := .later }
def PointNearUptoCardSaid : Prop := Claim7.holds Tryd.pinned (.plain (OpenSpec.upto pointNearSpec)) pointNearUptoCard
end Rows
end Go.Proofs.YthppfagfmjchoaaDoor
