/-
  NARROWER THAN 'FOR EVERY INPUT', by the rows' own cells (each row's printed sentence says how): PointIs: laid · DenoteIs: loops, laid · DenoteSane: loops, laid · DenotePoint: laid · DenoteSpan: loops, laid · DenoteList: loops, laid · DenoteCanon: loops, laid · PointUnits: laid.
  DERIVED. THE GIVEN ROWS OF THIS SEAT. 8 by the template 'for every input the law returns true; each argument reads behind the call as it read before'; 0 by the template 'total and deterministic' (their statements: YthppfagfmjchoaaGreatDoorTotals.lean).
  GIVEN WITH THE SEED: the statements are not yours to turn. If you find one false, say at which input.
  Laid BY PROGRAM, IN A SANDBOX (cutbox-rows.mjs): the forced cells as the released guide's own fill.sh prints them over the translation c349ad8b8729099b… (all of the seat's roots in one cut). By AI agents, Wed Nov 11 2026. No macro, syntax, notation, axiom, sorry.
-/
import Derived.Test.YthppfagfmjchoaaGreatDoorChecked
import GoSem.Claim
import GoSem.ClaimJoined
import GoSem.ClaimMapViews
import Derived.JoinedTies
import Derived.KernelRfl
namespace Go.Proofs.YthppfagfmjchoaaGreatDoor
/- THE CELL 'sum', in the pinned program and in every row, IS THE sha256 OF THE DUMP (.gsa) THAT YthppfagfmjchoaaGreatDoorProg.lean LOADS. Nothing in Lean hashes anything: it is a label: what it is worth is what the hold of that sum in a sandbox is worth. -/
noncomputable def Tryz.pinned : Pinned := { name := "ythppfagfmjchoaagreatdoor", sum := "c349ad8b8729099b45d63748a2535bb9ec3dde45672efa806d78d54ba73fc817", checked := Tryz.checked }
namespace Rows
def none {H : Type} : Left H := { results := [], args := [] }

/- WHAT THE LISTED PACKAGE-LEVEL VARIABLES READ AS WHEN THE CALL BEGINS. Each datum BY PROGRAM (the guide's laid-datum.mjs) off the statement by which the dump's own 'gosem.cut.vars' lays the variable. In a bare row this is a premise. The card (YthppfagfmjchoaaGreatDoorCards.lean) ties it to the program's text. -/
def laid_lustrum_civil_lengths {H : Type} : DataW H := .agg [.lit (.int .i64 0), .lit (.int .i64 31), .lit (.int .i64 28), .lit (.int .i64 31), .lit (.int .i64 30), .lit (.int .i64 31), .lit (.int .i64 30), .lit (.int .i64 31), .lit (.int .i64 31), .lit (.int .i64 30), .lit (.int .i64 31), .lit (.int .i64 30), .lit (.int .i64 31)]
def laid_math_bits_deBruijn32tab {H : Type} : DataW H := .agg [.lit (.int .u8 0), .lit (.int .u8 1), .lit (.int .u8 28), .lit (.int .u8 2), .lit (.int .u8 29), .lit (.int .u8 14), .lit (.int .u8 24), .lit (.int .u8 3), .lit (.int .u8 30), .lit (.int .u8 22), .lit (.int .u8 20), .lit (.int .u8 15), .lit (.int .u8 25), .lit (.int .u8 17), .lit (.int .u8 4), .lit (.int .u8 8), .lit (.int .u8 31), .lit (.int .u8 27), .lit (.int .u8 13), .lit (.int .u8 23), .lit (.int .u8 21), .lit (.int .u8 19), .lit (.int .u8 16), .lit (.int .u8 7), .lit (.int .u8 26), .lit (.int .u8 12), .lit (.int .u8 18), .lit (.int .u8 6), .lit (.int .u8 11), .lit (.int .u8 5), .lit (.int .u8 10), .lit (.int .u8 9)]
def laid_math_bits_deBruijn64tab {H : Type} : DataW H := .agg [.lit (.int .u8 0), .lit (.int .u8 1), .lit (.int .u8 56), .lit (.int .u8 2), .lit (.int .u8 57), .lit (.int .u8 49), .lit (.int .u8 28), .lit (.int .u8 3), .lit (.int .u8 61), .lit (.int .u8 58), .lit (.int .u8 42), .lit (.int .u8 50), .lit (.int .u8 38), .lit (.int .u8 29), .lit (.int .u8 17), .lit (.int .u8 4), .lit (.int .u8 62), .lit (.int .u8 47), .lit (.int .u8 59), .lit (.int .u8 36), .lit (.int .u8 45), .lit (.int .u8 43), .lit (.int .u8 51), .lit (.int .u8 22), .lit (.int .u8 53), .lit (.int .u8 39), .lit (.int .u8 33), .lit (.int .u8 30), .lit (.int .u8 24), .lit (.int .u8 18), .lit (.int .u8 12), .lit (.int .u8 5), .lit (.int .u8 63), .lit (.int .u8 55), .lit (.int .u8 48), .lit (.int .u8 27), .lit (.int .u8 60), .lit (.int .u8 41), .lit (.int .u8 37), .lit (.int .u8 16), .lit (.int .u8 46), .lit (.int .u8 35), .lit (.int .u8 44), .lit (.int .u8 21), .lit (.int .u8 52), .lit (.int .u8 32), .lit (.int .u8 23), .lit (.int .u8 11), .lit (.int .u8 54), .lit (.int .u8 26), .lit (.int .u8 40), .lit (.int .u8 15), .lit (.int .u8 34), .lit (.int .u8 20), .lit (.int .u8 31), .lit (.int .u8 10), .lit (.int .u8 25), .lit (.int .u8 14), .lit (.int .u8 19), .lit (.int .u8 9), .lit (.int .u8 13), .lit (.int .u8 8), .lit (.int .u8 7), .lit (.int .u8 6)]
def laid_internal_strconv_uint64pow10 {H : Type} : DataW H := .agg [.lit (.int .u64 1), .lit (.int .u64 10), .lit (.int .u64 100), .lit (.int .u64 1000), .lit (.int .u64 10000), .lit (.int .u64 100000), .lit (.int .u64 1000000), .lit (.int .u64 10000000), .lit (.int .u64 100000000), .lit (.int .u64 1000000000), .lit (.int .u64 10000000000), .lit (.int .u64 100000000000), .lit (.int .u64 1000000000000), .lit (.int .u64 10000000000000), .lit (.int .u64 100000000000000), .lit (.int .u64 1000000000000000), .lit (.int .u64 10000000000000000), .lit (.int .u64 100000000000000000), .lit (.int .u64 1000000000000000000), .lit (.int .u64 10000000000000000000)]

/-- 'lustrumlaw08.PointIs': WHATEVER THE INPUT: true; the input reads as it did. -/
def pointIsSpec : ChangeSpec := { name := "pointIs", fn := fun _ => fun
  | [d1, d2, d3] => { results := [.lit (.bool true)], args := [d1, d2, d3] }
  | _ => none }
def pointIsRow : OpenClaim := { program := "ythppfagfmjchoaagreatdoor", sum := "c349ad8b8729099b45d63748a2535bb9ec3dde45672efa806d78d54ba73fc817", func := "lustrum/lustrumlaw08.PointIs", spec := "pointIs", inPlace := ["internal/bytealg.IndexByteString", "internal/bytealg.IndexString"], unfollowed := true, recurses := true, named := ["internal/bytealg.MaxLen", "lustrum/civil.lengths"], apart := false, laid := [("lustrum/civil.lengths", laid_lustrum_civil_lengths)] }
def PointIsSaid : Prop := pointIsRow.holds Tryz.pinned (OpenSpec.ofChange pointIsSpec)

/-- ITS FALSE NEIGHBOUR: 'it returns false'. Refute it at one input. -/
def pointIsWrong : ChangeSpec := { name := "pointIs", fn := fun _ => fun
  | [d1, d2, d3] => { results := [.lit (.bool false)], args := [d1, d2, d3] }
  | _ => none }
def PointIsWrongFalsely : Prop := pointIsRow.holds Tryz.pinned (OpenSpec.ofChange pointIsWrong)

/-- 'lustrumlaw15.DenoteIs': WHATEVER THE INPUT: true; the input reads as it did. -/
def denoteIsSpec : ChangeSpec := { name := "denoteIs", fn := fun _ => fun
  | [d1, d2, d3] => { results := [.lit (.bool true)], args := [d1, d2, d3] }
  | _ => none }
def denoteIsRow : OpenClaim := { program := "ythppfagfmjchoaagreatdoor", sum := "c349ad8b8729099b45d63748a2535bb9ec3dde45672efa806d78d54ba73fc817", func := "lustrum/lustrumlaw15.DenoteIs", spec := "denoteIs", unfollowed := true, recurses := true, named := ["lustrum/civil.lengths"], loops := true, apart := false, laid := [("lustrum/civil.lengths", laid_lustrum_civil_lengths)] }
def DenoteIsSaid : Prop := denoteIsRow.holds Tryz.pinned (OpenSpec.ofChange denoteIsSpec)

/-- ITS FALSE NEIGHBOUR: 'it returns false'. Refute it at one input. -/
def denoteIsWrong : ChangeSpec := { name := "denoteIs", fn := fun _ => fun
  | [d1, d2, d3] => { results := [.lit (.bool false)], args := [d1, d2, d3] }
  | _ => none }
def DenoteIsWrongFalsely : Prop := denoteIsRow.holds Tryz.pinned (OpenSpec.ofChange denoteIsWrong)

/-- 'lustrumlaw15.DenoteSane': WHATEVER THE INPUT: true; the input reads as it did. -/
def denoteSaneSpec : ChangeSpec := { name := "denoteSane", fn := fun _ => fun
  | [d] => { results := [.lit (.bool true)], args := [d] }
  | _ => none }
def denoteSaneRow : OpenClaim := { program := "ythppfagfmjchoaagreatdoor", sum := "c349ad8b8729099b45d63748a2535bb9ec3dde45672efa806d78d54ba73fc817", func := "lustrum/lustrumlaw15.DenoteSane", spec := "denoteSane", unfollowed := true, recurses := true, named := ["lustrum/civil.lengths"], loops := true, apart := false, laid := [("lustrum/civil.lengths", laid_lustrum_civil_lengths)] }
def DenoteSaneSaid : Prop := denoteSaneRow.holds Tryz.pinned (OpenSpec.ofChange denoteSaneSpec)

/-- ITS FALSE NEIGHBOUR: 'it returns false'. Refute it at one input. -/
def denoteSaneWrong : ChangeSpec := { name := "denoteSane", fn := fun _ => fun
  | [d] => { results := [.lit (.bool false)], args := [d] }
  | _ => none }
def DenoteSaneWrongFalsely : Prop := denoteSaneRow.holds Tryz.pinned (OpenSpec.ofChange denoteSaneWrong)

/-- 'lustrumlaw15.DenotePoint': WHATEVER THE INPUT: true; the input reads as it did. -/
def denotePointSpec : ChangeSpec := { name := "denotePoint", fn := fun _ => fun
  | [d1, d2, d3, d4] => { results := [.lit (.bool true)], args := [d1, d2, d3, d4] }
  | _ => none }
def denotePointRow : OpenClaim := { program := "ythppfagfmjchoaagreatdoor", sum := "c349ad8b8729099b45d63748a2535bb9ec3dde45672efa806d78d54ba73fc817", func := "lustrum/lustrumlaw15.DenotePoint", spec := "denotePoint", unfollowed := true, recurses := true, named := ["lustrum/civil.lengths"], apart := false, laid := [("lustrum/civil.lengths", laid_lustrum_civil_lengths)] }
def DenotePointSaid : Prop := denotePointRow.holds Tryz.pinned (OpenSpec.ofChange denotePointSpec)

/-- ITS FALSE NEIGHBOUR: 'it returns false'. Refute it at one input. -/
def denotePointWrong : ChangeSpec := { name := "denotePoint", fn := fun _ => fun
  | [d1, d2, d3, d4] => { results := [.lit (.bool false)], args := [d1, d2, d3, d4] }
  | _ => none }
def DenotePointWrongFalsely : Prop := denotePointRow.holds Tryz.pinned (OpenSpec.ofChange denotePointWrong)

/-- 'lustrumlaw15.DenoteSpan': WHATEVER THE INPUT: true; the input reads as it did. -/
def denoteSpanSpec : ChangeSpec := { name := "denoteSpan", fn := fun _ => fun
  | [d1, d2, d3] => { results := [.lit (.bool true)], args := [d1, d2, d3] }
  | _ => none }
def denoteSpanRow : OpenClaim := { program := "ythppfagfmjchoaagreatdoor", sum := "c349ad8b8729099b45d63748a2535bb9ec3dde45672efa806d78d54ba73fc817", func := "lustrum/lustrumlaw15.DenoteSpan", spec := "denoteSpan", unfollowed := true, recurses := true, named := ["lustrum/civil.lengths"], loops := true, apart := false, laid := [("lustrum/civil.lengths", laid_lustrum_civil_lengths)] }
def DenoteSpanSaid : Prop := denoteSpanRow.holds Tryz.pinned (OpenSpec.ofChange denoteSpanSpec)

/-- ITS FALSE NEIGHBOUR: 'it returns false'. Refute it at one input. -/
def denoteSpanWrong : ChangeSpec := { name := "denoteSpan", fn := fun _ => fun
  | [d1, d2, d3] => { results := [.lit (.bool false)], args := [d1, d2, d3] }
  | _ => none }
def DenoteSpanWrongFalsely : Prop := denoteSpanRow.holds Tryz.pinned (OpenSpec.ofChange denoteSpanWrong)

/-- 'lustrumlaw15.DenoteList': WHATEVER THE INPUT: true; the input reads as it did. -/
def denoteListSpec : ChangeSpec := { name := "denoteList", fn := fun _ => fun
  | [d] => { results := [.lit (.bool true)], args := [d] }
  | _ => none }
def denoteListRow : OpenClaim := { program := "ythppfagfmjchoaagreatdoor", sum := "c349ad8b8729099b45d63748a2535bb9ec3dde45672efa806d78d54ba73fc817", func := "lustrum/lustrumlaw15.DenoteList", spec := "denoteList", unfollowed := true, recurses := true, named := ["lustrum/civil.lengths"], loops := true, apart := false, laid := [("lustrum/civil.lengths", laid_lustrum_civil_lengths)] }
def DenoteListSaid : Prop := denoteListRow.holds Tryz.pinned (OpenSpec.ofChange denoteListSpec)

/-- ITS FALSE NEIGHBOUR: 'it returns false'. Refute it at one input. -/
def denoteListWrong : ChangeSpec := { name := "denoteList", fn := fun _ => fun
  | [d] => { results := [.lit (.bool false)], args := [d] }
  | _ => none }
def DenoteListWrongFalsely : Prop := denoteListRow.holds Tryz.pinned (OpenSpec.ofChange denoteListWrong)

/-- 'lustrumlaw15.DenoteCanon': WHATEVER THE INPUT: true; the input reads as it did. -/
def denoteCanonSpec : ChangeSpec := { name := "denoteCanon", fn := fun _ => fun
  | [d1, d2] => { results := [.lit (.bool true)], args := [d1, d2] }
  | _ => none }
def denoteCanonRow : OpenClaim := { program := "ythppfagfmjchoaagreatdoor", sum := "c349ad8b8729099b45d63748a2535bb9ec3dde45672efa806d78d54ba73fc817", func := "lustrum/lustrumlaw15.DenoteCanon", spec := "denoteCanon", inPlace := ["internal/abi.NoEscape", "internal/bytealg.MakeNoZero"], unfollowed := true, recurses := true, named := ["lustrum/civil.lengths"], loops := true, apart := false, laid := [("lustrum/civil.lengths", laid_lustrum_civil_lengths)] }
def DenoteCanonSaid : Prop := denoteCanonRow.holds Tryz.pinned (OpenSpec.ofChange denoteCanonSpec)

/-- ITS FALSE NEIGHBOUR: 'it returns false'. Refute it at one input. -/
def denoteCanonWrong : ChangeSpec := { name := "denoteCanon", fn := fun _ => fun
  | [d1, d2] => { results := [.lit (.bool false)], args := [d1, d2] }
  | _ => none }
def DenoteCanonWrongFalsely : Prop := denoteCanonRow.holds Tryz.pinned (OpenSpec.ofChange denoteCanonWrong)

/-- 'lustrumlaw08.PointUnits': WHATEVER THE INPUT: true; the input reads as it did. -/
def pointUnitsSpec : ChangeSpec := { name := "pointUnits", fn := fun _ => fun
  | [d1, d2] => { results := [.lit (.bool true)], args := [d1, d2] }
  | _ => none }
def pointUnitsRow : OpenClaim := { program := "ythppfagfmjchoaagreatdoor", sum := "c349ad8b8729099b45d63748a2535bb9ec3dde45672efa806d78d54ba73fc817", func := "lustrum/lustrumlaw08.PointUnits", spec := "pointUnits", inPlace := ["internal/bytealg.IndexByteString", "internal/bytealg.IndexString", "internal/abi.NoEscape", "internal/bytealg.MakeNoZero"], unfollowed := true, recurses := true, named := ["internal/bytealg.MaxLen", "lustrum/civil.lengths", "internal/strconv.uint64pow10", "math/bits.deBruijn32tab", "math/bits.deBruijn64tab"], apart := false, laid := [("math/bits.deBruijn32tab", laid_math_bits_deBruijn32tab), ("math/bits.deBruijn64tab", laid_math_bits_deBruijn64tab), ("internal/strconv.uint64pow10", laid_internal_strconv_uint64pow10), ("lustrum/civil.lengths", laid_lustrum_civil_lengths)] }
def PointUnitsSaid : Prop := pointUnitsRow.holds Tryz.pinned (OpenSpec.ofChange pointUnitsSpec)

/-- ITS FALSE NEIGHBOUR: 'it returns false'. Refute it at one input. -/
def pointUnitsWrong : ChangeSpec := { name := "pointUnits", fn := fun _ => fun
  | [d1, d2] => { results := [.lit (.bool false)], args := [d1, d2] }
  | _ => none }
def PointUnitsWrongFalsely : Prop := pointUnitsRow.holds Tryz.pinned (OpenSpec.ofChange pointUnitsWrong)

/- THE SECOND FORM. 'bulk': how many values and letters a reading holds, each counted each time it is reached (what is shared counts as often as it is met; a slice's spare places count too). A statement '..UptoSaid' is the law's where the arguments, and the package variables that the reading takes, are together of bulk at most 1048576: NARROWER than '..Said'. Prove '..Said' where nothing that the law and all that it calls make is longer than what came in: it says more and counts as full. Else prove '..UptoSaid'. A law counts once. -/
mutual
def uptoBulk {H : Type} : DataW H → Nat
  | .lit (.string bytes) => bytes.length + 1
  | .lit _ => 1
  | .nil => 1
  | .ptr d => uptoBulk d + 1
  | .slice elems spare => uptoBulkAll elems + uptoBulkAll spare + 1
  | .agg parts => uptoBulkAll parts + 1
  | .iface _ d => uptoBulk d + 1
  | .map entries => uptoBulkEntries entries + 1
  | .held _ => 1
def uptoBulkAll {H : Type} : List (DataW H) → Nat
  | [] => 0
  | d :: r => uptoBulk d + uptoBulkAll r
def uptoBulkEntries {H : Type} : List (Lit × DataW H) → Nat
  | [] => 0
  | x :: r => uptoBulkEntry x + uptoBulkEntries r
def uptoBulkEntry {H : Type} : Lit × DataW H → Nat
  | (.string bytes, d) => bytes.length + uptoBulk d + 1
  | (_, d) => uptoBulk d + 1
 end
def uptoSmall : (H : Type) → List (DataW H) → Bool := fun _ ds => decide (uptoBulkAll ds ≤ 1048576)
def OpenSpec.upto (s : _root_.Go.ChangeSpec) : _root_.Go.OpenSpec := { _root_.Go.OpenSpec.ofChange s with cond := some uptoSmall }

/-- 'lustrumlaw08.PointIs', WHERE WHAT IT READS IS OF BULK AT MOST 1048576: true; the input reads as it did. -/
def pointIsUptoRow : OpenClaim := { program := "ythppfagfmjchoaagreatdoor", sum := "c349ad8b8729099b45d63748a2535bb9ec3dde45672efa806d78d54ba73fc817", func := "lustrum/lustrumlaw08.PointIs", spec := "pointIs", inPlace := ["internal/bytealg.IndexByteString", "internal/bytealg.IndexString"], unfollowed := true, recurses := true, named := ["internal/bytealg.MaxLen", "lustrum/civil.lengths"], apart := false, laid := [("lustrum/civil.lengths", laid_lustrum_civil_lengths)], narrowed := true }
def PointIsUptoSaid : Prop := pointIsUptoRow.holds Tryz.pinned (OpenSpec.upto pointIsSpec)

/-- 'lustrumlaw15.DenoteIs', WHERE WHAT IT READS IS OF BULK AT MOST 1048576: true; the input reads as it did. -/
def denoteIsUptoRow : OpenClaim := { program := "ythppfagfmjchoaagreatdoor", sum := "c349ad8b8729099b45d63748a2535bb9ec3dde45672efa806d78d54ba73fc817", func := "lustrum/lustrumlaw15.DenoteIs", spec := "denoteIs", unfollowed := true, recurses := true, named := ["lustrum/civil.lengths"], loops := true, apart := false, laid := [("lustrum/civil.lengths", laid_lustrum_civil_lengths)], narrowed := true }
def DenoteIsUptoSaid : Prop := denoteIsUptoRow.holds Tryz.pinned (OpenSpec.upto denoteIsSpec)

/-- 'lustrumlaw15.DenoteSane', WHERE WHAT IT READS IS OF BULK AT MOST 1048576: true; the input reads as it did. -/
def denoteSaneUptoRow : OpenClaim := { program := "ythppfagfmjchoaagreatdoor", sum := "c349ad8b8729099b45d63748a2535bb9ec3dde45672efa806d78d54ba73fc817", func := "lustrum/lustrumlaw15.DenoteSane", spec := "denoteSane", unfollowed := true, recurses := true, named := ["lustrum/civil.lengths"], loops := true, apart := false, laid := [("lustrum/civil.lengths", laid_lustrum_civil_lengths)], narrowed := true }
def DenoteSaneUptoSaid : Prop := denoteSaneUptoRow.holds Tryz.pinned (OpenSpec.upto denoteSaneSpec)

/-- 'lustrumlaw15.DenotePoint', WHERE WHAT IT READS IS OF BULK AT MOST 1048576: true; the input reads as it did. -/
def denotePointUptoRow : OpenClaim := { program := "ythppfagfmjchoaagreatdoor", sum := "c349ad8b8729099b45d63748a2535bb9ec3dde45672efa806d78d54ba73fc817", func := "lustrum/lustrumlaw15.DenotePoint", spec := "denotePoint", unfollowed := true, recurses := true, named := ["lustrum/civil.lengths"], apart := false, laid := [("lustrum/civil.lengths", laid_lustrum_civil_lengths)], narrowed := true }
def DenotePointUptoSaid : Prop := denotePointUptoRow.holds Tryz.pinned (OpenSpec.upto denotePointSpec)

/-- 'lustrumlaw15.DenoteSpan', WHERE WHAT IT READS IS OF BULK AT MOST 1048576: true; the input reads as it did. -/
def denoteSpanUptoRow : OpenClaim := { program := "ythppfagfmjchoaagreatdoor", sum := "c349ad8b8729099b45d63748a2535bb9ec3dde45672efa806d78d54ba73fc817", func := "lustrum/lustrumlaw15.DenoteSpan", spec := "denoteSpan", unfollowed := true, recurses := true, named := ["lustrum/civil.lengths"], loops := true, apart := false, laid := [("lustrum/civil.lengths", laid_lustrum_civil_lengths)], narrowed := true }
def DenoteSpanUptoSaid : Prop := denoteSpanUptoRow.holds Tryz.pinned (OpenSpec.upto denoteSpanSpec)

/-- 'lustrumlaw15.DenoteList', WHERE WHAT IT READS IS OF BULK AT MOST 1048576: true; the input reads as it did. -/
def denoteListUptoRow : OpenClaim := { program := "ythppfagfmjchoaagreatdoor", sum := "c349ad8b8729099b45d63748a2535bb9ec3dde45672efa806d78d54ba73fc817", func := "lustrum/lustrumlaw15.DenoteList", spec := "denoteList", unfollowed := true, recurses := true, named := ["lustrum/civil.lengths"], loops := true, apart := false, laid := [("lustrum/civil.lengths", laid_lustrum_civil_lengths)], narrowed := true }
def DenoteListUptoSaid : Prop := denoteListUptoRow.holds Tryz.pinned (OpenSpec.upto denoteListSpec)

/-- 'lustrumlaw15.DenoteCanon', WHERE WHAT IT READS IS OF BULK AT MOST 1048576: true; the input reads as it did. -/
def denoteCanonUptoRow : OpenClaim := { program := "ythppfagfmjchoaagreatdoor", sum := "c349ad8b8729099b45d63748a2535bb9ec3dde45672efa806d78d54ba73fc817", func := "lustrum/lustrumlaw15.DenoteCanon", spec := "denoteCanon", inPlace := ["internal/abi.NoEscape", "internal/bytealg.MakeNoZero"], unfollowed := true, recurses := true, named := ["lustrum/civil.lengths"], loops := true, apart := false, laid := [("lustrum/civil.lengths", laid_lustrum_civil_lengths)], narrowed := true }
def DenoteCanonUptoSaid : Prop := denoteCanonUptoRow.holds Tryz.pinned (OpenSpec.upto denoteCanonSpec)

/-- 'lustrumlaw08.PointUnits', WHERE WHAT IT READS IS OF BULK AT MOST 1048576: true; the input reads as it did. -/
def pointUnitsUptoRow : OpenClaim := { program := "ythppfagfmjchoaagreatdoor", sum := "c349ad8b8729099b45d63748a2535bb9ec3dde45672efa806d78d54ba73fc817", func := "lustrum/lustrumlaw08.PointUnits", spec := "pointUnits", inPlace := ["internal/bytealg.IndexByteString", "internal/bytealg.IndexString", "internal/abi.NoEscape", "internal/bytealg.MakeNoZero"], unfollowed := true, recurses := true, named := ["internal/bytealg.MaxLen", "lustrum/civil.lengths", "internal/strconv.uint64pow10", "math/bits.deBruijn32tab", "math/bits.deBruijn64tab"], apart := false, laid := [("math/bits.deBruijn32tab", laid_math_bits_deBruijn32tab), ("math/bits.deBruijn64tab", laid_math_bits_deBruijn64tab), ("internal/strconv.uint64pow10", laid_internal_strconv_uint64pow10), ("lustrum/civil.lengths", laid_lustrum_civil_lengths)], narrowed := true }
def PointUnitsUptoSaid : Prop := pointUnitsUptoRow.holds Tryz.pinned (OpenSpec.upto pointUnitsSpec)

end Rows
end Go.Proofs.YthppfagfmjchoaaGreatDoor
