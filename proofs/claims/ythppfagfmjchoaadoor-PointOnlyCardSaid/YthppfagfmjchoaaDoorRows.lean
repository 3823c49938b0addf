/-
  NARROWER THAN 'FOR EVERY INPUT', by the rows' own cells (each row's printed sentence says how): PointBack: laid · PointOnly: laid · PointHidden: laid · PointNear: laid.
  DERIVED. THE GIVEN ROWS OF THIS SEAT. 4 by the template 'for every input the law returns true; each argument reads behind the call as it read before'; 0 by the template 'total and deterministic' (their statements: YthppfagfmjchoaaDoorTotals.lean).
  GIVEN WITH THE SEED: the statements are not yours to turn. If you find one false, say at which input.
  Laid BY PROGRAM, IN A SANDBOX (cutbox-rows.mjs): the forced cells as the released guide's own fill.sh prints them over the translation 8fe889fb52e769d6… (all of the seat's roots in one cut). By AI agents, Wed Nov 11 2026. No macro, syntax, notation, axiom, sorry.
-/
import Derived.Test.YthppfagfmjchoaaDoorChecked
import GoSem.Claim
import GoSem.ClaimJoined
import GoSem.ClaimMapViews
import Derived.JoinedTies
import Derived.KernelRfl
namespace Go.Proofs.YthppfagfmjchoaaDoor
/- THE CELL 'sum', in the pinned program and in every row, IS THE sha256 OF THE DUMP (.gsa) THAT YthppfagfmjchoaaDoorProg.lean LOADS. Nothing in Lean hashes anything: it is a label: what it is worth is what the hold of that sum in a sandbox is worth. -/
noncomputable def Tryd.pinned : Pinned := { name := "ythppfagfmjchoaadoor", sum := "8fe889fb52e769d69493539c8048fe1b9482ed2d3b1444aff9dda5e80408d41b", checked := Tryd.checked }
namespace Rows
def none {H : Type} : Left H := { results := [], args := [] }

/- WHAT THE LISTED PACKAGE-LEVEL VARIABLES READ AS WHEN THE CALL BEGINS. Each datum BY PROGRAM (the guide's laid-datum.mjs) off the statement by which the dump's own 'gosem.cut.vars' lays the variable. In a bare row this is a premise. The card (YthppfagfmjchoaaDoorCards.lean) ties it to the program's text. -/
def laid_lustrum_civil_lengths {H : Type} : DataW H := .agg [.lit (.int .i64 0), .lit (.int .i64 31), .lit (.int .i64 28), .lit (.int .i64 31), .lit (.int .i64 30), .lit (.int .i64 31), .lit (.int .i64 30), .lit (.int .i64 31), .lit (.int .i64 31), .lit (.int .i64 30), .lit (.int .i64 31), .lit (.int .i64 30), .lit (.int .i64 31)]

/-- 'lustrumlaw08.PointBack': WHATEVER THE INPUT: true; the input reads as it did. -/
def pointBackSpec : ChangeSpec := { name := "pointBack", fn := fun _ => fun
  | [d1, d2] => { results := [.lit (.bool true)], args := [d1, d2] }
  | _ => none }
def pointBackRow : OpenClaim := { program := "ythppfagfmjchoaadoor", sum := "8fe889fb52e769d69493539c8048fe1b9482ed2d3b1444aff9dda5e80408d41b", func := "lustrum/lustrumlaw08.PointBack", spec := "pointBack", inPlace := ["internal/bytealg.IndexByteString", "internal/bytealg.IndexString"], unfollowed := true, recurses := true, named := ["internal/bytealg.MaxLen", "lustrum/civil.lengths"], apart := false, laid := [("lustrum/civil.lengths", laid_lustrum_civil_lengths)] }
def PointBackSaid : Prop := pointBackRow.holds Tryd.pinned (OpenSpec.ofChange pointBackSpec)

/-- ITS FALSE NEIGHBOUR: 'it returns false'. Refute it at one input. -/
def pointBackWrong : ChangeSpec := { name := "pointBack", fn := fun _ => fun
  | [d1, d2] => { results := [.lit (.bool false)], args := [d1, d2] }
  | _ => none }
def PointBackWrongFalsely : Prop := pointBackRow.holds Tryd.pinned (OpenSpec.ofChange pointBackWrong)

/-- 'lustrumlaw08.PointOnly': WHATEVER THE INPUT: true; the input reads as it did. -/
def pointOnlySpec : ChangeSpec := { name := "pointOnly", fn := fun _ => fun
  | [d] => { results := [.lit (.bool true)], args := [d] }
  | _ => none }
def pointOnlyRow : OpenClaim := { program := "ythppfagfmjchoaadoor", sum := "8fe889fb52e769d69493539c8048fe1b9482ed2d3b1444aff9dda5e80408d41b", func := "lustrum/lustrumlaw08.PointOnly", spec := "pointOnly", inPlace := ["internal/bytealg.IndexByteString", "internal/bytealg.IndexString"], unfollowed := true, recurses := true, named := ["internal/bytealg.MaxLen", "lustrum/civil.lengths"], apart := false, laid := [("lustrum/civil.lengths", laid_lustrum_civil_lengths)] }
def PointOnlySaid : Prop := pointOnlyRow.holds Tryd.pinned (OpenSpec.ofChange pointOnlySpec)

/-- ITS FALSE NEIGHBOUR: 'it returns false'. Refute it at one input. -/
def pointOnlyWrong : ChangeSpec := { name := "pointOnly", fn := fun _ => fun
  | [d] => { results := [.lit (.bool false)], args := [d] }
  | _ => none }
def PointOnlyWrongFalsely : Prop := pointOnlyRow.holds Tryd.pinned (OpenSpec.ofChange pointOnlyWrong)

/-- 'lustrumlaw08.PointHidden': WHATEVER THE INPUT: true; the input reads as it did. -/
def pointHiddenSpec : ChangeSpec := { name := "pointHidden", fn := fun _ => fun
  | [d1, d2] => { results := [.lit (.bool true)], args := [d1, d2] }
  | _ => none }
def pointHiddenRow : OpenClaim := { program := "ythppfagfmjchoaadoor", sum := "8fe889fb52e769d69493539c8048fe1b9482ed2d3b1444aff9dda5e80408d41b", func := "lustrum/lustrumlaw08.PointHidden", spec := "pointHidden", inPlace := ["internal/bytealg.IndexByteString", "internal/bytealg.IndexString"], unfollowed := true, recurses := true, named := ["internal/bytealg.MaxLen", "lustrum/civil.lengths"], apart := false, laid := [("lustrum/civil.lengths", laid_lustrum_civil_lengths)] }
def PointHiddenSaid : Prop := pointHiddenRow.holds Tryd.pinned (OpenSpec.ofChange pointHiddenSpec)

/-- ITS FALSE NEIGHBOUR: 'it returns false'. Refute it at one input. -/
def pointHiddenWrong : ChangeSpec := { name := "pointHidden", fn := fun _ => fun
  | [d1, d2] => { results := [.lit (.bool false)], args := [d1, d2] }
  | _ => none }
def PointHiddenWrongFalsely : Prop := pointHiddenRow.holds Tryd.pinned (OpenSpec.ofChange pointHiddenWrong)

/-- 'lustrumlaw08.PointNear': WHATEVER THE INPUT: true; the input reads as it did. -/
def pointNearSpec : ChangeSpec := { name := "pointNear", fn := fun _ => fun
  | [d1, d2] => { results := [.lit (.bool true)], args := [d1, d2] }
  | _ => none }
def pointNearRow : OpenClaim := { program := "ythppfagfmjchoaadoor", sum := "8fe889fb52e769d69493539c8048fe1b9482ed2d3b1444aff9dda5e80408d41b", func := "lustrum/lustrumlaw08.PointNear", spec := "pointNear", inPlace := ["internal/bytealg.IndexByteString", "internal/bytealg.IndexString"], unfollowed := true, recurses := true, named := ["internal/bytealg.MaxLen", "lustrum/civil.lengths"], apart := false, laid := [("lustrum/civil.lengths", laid_lustrum_civil_lengths)] }
def PointNearSaid : Prop := pointNearRow.holds Tryd.pinned (OpenSpec.ofChange pointNearSpec)

/-- ITS FALSE NEIGHBOUR: 'it returns false'. Refute it at one input. -/
def pointNearWrong : ChangeSpec := { name := "pointNear", fn := fun _ => fun
  | [d1, d2] => { results := [.lit (.bool false)], args := [d1, d2] }
  | _ => none }
def PointNearWrongFalsely : Prop := pointNearRow.holds Tryd.pinned (OpenSpec.ofChange pointNearWrong)

/- THE SECOND FORM. 'bulk': how many values and letters a reading holds, each counted each time it is reached (what is shared counts as often as it is met; a slice's spare places count too). A statement '..UptoSaid' is the law's where the arguments, and the package variables that the reading takes, are together of bulk at most 1048576: NARROWER than '..Said'. Prove '..Said' where nothing that the law and all that it calls make is longer than what came in: it says more and counts as full. Else prove '..UptoSaid'. A law counts once. -/
mutual
def uptoBulk {H : Type} : DataW H → Nat
  | .lit (.string bytes) => bytes.length + 1
  | .lit _ => 1
  | .nil => 1
  | .ptr d => uptoBulk d + 1
  | .slice elems spare => uptoBulkAll elems + uptoBulkAll spare + 1
  | .agg parts => uptoBulkAll parts + 1
  | .iface _ d => uptoBulk d + 1
  | .map entries => uptoBulkEntries entries + 1
  | .held _ => 1
def uptoBulkAll {H : Type} : List (DataW H) → Nat
  | [] => 0
  | d :: r => uptoBulk d + uptoBulkAll r
def uptoBulkEntries {H : Type} : List (Lit × DataW H) → Nat
  | [] => 0
  | x :: r => uptoBulkEntry x + uptoBulkEntries r
def uptoBulkEntry {H : Type} : Lit × DataW H → Nat
  | (.string bytes, d) => bytes.length + uptoBulk d + 1
  | (_, d) => uptoBulk d + 1
 end
def uptoSmall : (H : Type) → List (DataW H) → Bool := fun _ ds => decide (uptoBulkAll ds ≤ 1048576)
def OpenSpec.upto (s : _root_.Go.ChangeSpec) : _root_.Go.OpenSpec := { _root_.Go.OpenSpec.ofChange s with cond := some uptoSmall }

/-- 'lustrumlaw08.PointBack', WHERE WHAT IT READS IS OF BULK AT MOST 1048576: true; the input reads as it did. -/
def pointBackUptoRow : OpenClaim := { program := "ythppfagfmjchoaadoor", sum := "8fe889fb52e769d69493539c8048fe1b9482ed2d3b1444aff9dda5e80408d41b", func := "lustrum/lustrumlaw08.PointBack", spec := "pointBack", inPlace := ["internal/bytealg.IndexByteString", "internal/bytealg.IndexString"], unfollowed := true, recurses := true, named := ["internal/bytealg.MaxLen", "lustrum/civil.lengths"], apart := false, laid := [("lustrum/civil.lengths", laid_lustrum_civil_lengths)], narrowed := true }
def PointBackUptoSaid : Prop := pointBackUptoRow.holds Tryd.pinned (OpenSpec.upto pointBackSpec)

/-- 'lustrumlaw08.PointOnly', WHERE WHAT IT READS IS OF BULK AT MOST 1048576: true; the input reads as it did. -/
def pointOnlyUptoRow : OpenClaim := { program := "ythppfagfmjchoaadoor", sum := "8fe889fb52e769d69493539c8048fe1b9482ed2d3b1444aff9dda5e80408d41b", func := "lustrum/lustrumlaw08.PointOnly", spec := "pointOnly", inPlace := ["internal/bytealg.IndexByteString", "internal/bytealg.IndexString"], unfollowed := true, recurses := true, named := ["internal/bytealg.MaxLen", "lustrum/civil.lengths"], apart := false, laid := [("lustrum/civil.lengths", laid_lustrum_civil_lengths)], narrowed := true }
def PointOnlyUptoSaid : Prop := pointOnlyUptoRow.holds Tryd.pinned (OpenSpec.upto pointOnlySpec)

/-- 'lustrumlaw08.PointHidden', WHERE WHAT IT READS IS OF BULK AT MOST 1048576: true; the input reads as it did. -/
def pointHiddenUptoRow : OpenClaim := { program := "ythppfagfmjchoaadoor", sum := "8fe889fb52e769d69493539c8048fe1b9482ed2d3b1444aff9dda5e80408d41b", func := "lustrum/lustrumlaw08.PointHidden", spec := "pointHidden", inPlace := ["internal/bytealg.IndexByteString", "internal/bytealg.IndexString"], unfollowed := true, recurses := true, named := ["internal/bytealg.MaxLen", "lustrum/civil.lengths"], apart := false, laid := [("lustrum/civil.lengths", laid_lustrum_civil_lengths)], narrowed := true }
def PointHiddenUptoSaid : Prop := pointHiddenUptoRow.holds Tryd.pinned (OpenSpec.upto pointHiddenSpec)

/-- 'lustrumlaw08.PointNear', WHERE WHAT IT READS IS OF BULK AT MOST 1048576: true; the input reads as it did. -/
def pointNearUptoRow : OpenClaim := { program := "ythppfagfmjchoaadoor", sum := "8fe889fb52e769d69493539c8048fe1b9482ed2d3b1444aff9dda5e80408d41b", func := "lustrum/lustrumlaw08.PointNear", spec := "pointNear", inPlace := ["internal/bytealg.IndexByteString", "internal/bytealg.IndexString"], unfollowed := true, recurses := true, named := ["internal/bytealg.MaxLen", "lustrum/civil.lengths"], apart := false, laid := [("lustrum/civil.lengths", laid_lustrum_civil_lengths)], narrowed := true }
def PointNearUptoSaid : Prop := pointNearUptoRow.holds Tryd.pinned (OpenSpec.upto pointNearSpec)

end Rows
end Go.Proofs.YthppfagfmjchoaaDoor
