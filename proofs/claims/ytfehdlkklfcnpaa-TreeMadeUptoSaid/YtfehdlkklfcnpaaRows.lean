/-
  NARROWER THAN 'FOR EVERY INPUT', by the rows' own cells (each row's printed sentence says how): TreeIs: loops · TreeMade: loops · TreeCounts: loops · TreeSame: loops · PrintIs: loops · PrintParts: loops · PrintApart: loops · PrintLex: loops · CanonIs: loops · CanonOnce: loops · CanonOrder: loops · CanonParts: loops · CanonMore: loops.
  DERIVED. THE GIVEN ROWS OF THIS SEAT. 13 by the template 'for every input the law returns true; each argument reads behind the call as it read before'; 0 by the template 'total and deterministic' (their statements: YtfehdlkklfcnpaaTotals.lean).
  GIVEN WITH THE SEED: the statements are not yours to turn. If you find one false, say at which input.
  Laid BY PROGRAM, IN A SANDBOX (cutbox-rows.mjs): the forced cells as the released guide's own fill.sh prints them over the translation e0475629595cf74b… (all of the seat's roots in one cut). By AI agents, Wed Nov 11 2026. No macro, syntax, notation, axiom, sorry.
-/
import Derived.Test.YtfehdlkklfcnpaaChecked
import GoSem.Claim
import GoSem.ClaimJoined
import GoSem.ClaimMapViews
import Derived.JoinedTies
import Derived.KernelRfl
namespace Go.Proofs.Ytfehdlkklfcnpaa
/- THE CELL 'sum', in the pinned program and in every row, IS THE sha256 OF THE DUMP (.gsa) THAT YtfehdlkklfcnpaaProg.lean LOADS. Nothing in Lean hashes anything: it is a label: what it is worth is what the hold of that sum in a sandbox is worth. -/
noncomputable def Try.pinned : Pinned := { name := "ytfehdlkklfcnpaa", sum := "e0475629595cf74b819ff0957e85405595806b8519162289d4ef6500fe94ce7f", checked := Try.checked }
namespace Rows
def none {H : Type} : Left H := { results := [], args := [] }

/-- 'lustrumlaw10.TreeIs': WHATEVER THE INPUT: true; the input reads as it did. -/
def treeIsSpec : ChangeSpec := { name := "treeIs", fn := fun _ => fun
  | [d1, d2] => { results := [.lit (.bool true)], args := [d1, d2] }
  | _ => none }
def treeIsRow : OpenClaim := { program := "ytfehdlkklfcnpaa", sum := "e0475629595cf74b819ff0957e85405595806b8519162289d4ef6500fe94ce7f", func := "lustrum/lustrumlaw10.TreeIs", spec := "treeIs", unfollowed := true, recurses := true, loops := true, apart := false }
def TreeIsSaid : Prop := treeIsRow.holds Try.pinned (OpenSpec.ofChange treeIsSpec)

/-- ITS FALSE NEIGHBOUR: 'it returns false'. Refute it at one input. -/
def treeIsWrong : ChangeSpec := { name := "treeIs", fn := fun _ => fun
  | [d1, d2] => { results := [.lit (.bool false)], args := [d1, d2] }
  | _ => none }
def TreeIsWrongFalsely : Prop := treeIsRow.holds Try.pinned (OpenSpec.ofChange treeIsWrong)

/-- 'lustrumlaw10.TreeMade': WHATEVER THE INPUT: true; the input reads as it did. -/
def treeMadeSpec : ChangeSpec := { name := "treeMade", fn := fun _ => fun
  | [d1, d2, d3, d4] => { results := [.lit (.bool true)], args := [d1, d2, d3, d4] }
  | _ => none }
def treeMadeRow : OpenClaim := { program := "ytfehdlkklfcnpaa", sum := "e0475629595cf74b819ff0957e85405595806b8519162289d4ef6500fe94ce7f", func := "lustrum/lustrumlaw10.TreeMade", spec := "treeMade", unfollowed := true, recurses := true, loops := true, apart := false }
def TreeMadeSaid : Prop := treeMadeRow.holds Try.pinned (OpenSpec.ofChange treeMadeSpec)

/-- ITS FALSE NEIGHBOUR: 'it returns false'. Refute it at one input. -/
def treeMadeWrong : ChangeSpec := { name := "treeMade", fn := fun _ => fun
  | [d1, d2, d3, d4] => { results := [.lit (.bool false)], args := [d1, d2, d3, d4] }
  | _ => none }
def TreeMadeWrongFalsely : Prop := treeMadeRow.holds Try.pinned (OpenSpec.ofChange treeMadeWrong)

/-- 'lustrumlaw10.TreeCounts': WHATEVER THE INPUT: true; the input reads as it did. -/
def treeCountsSpec : ChangeSpec := { name := "treeCounts", fn := fun _ => fun
  | [d1, d2] => { results := [.lit (.bool true)], args := [d1, d2] }
  | _ => none }
def treeCountsRow : OpenClaim := { program := "ytfehdlkklfcnpaa", sum := "e0475629595cf74b819ff0957e85405595806b8519162289d4ef6500fe94ce7f", func := "lustrum/lustrumlaw10.TreeCounts", spec := "treeCounts", unfollowed := true, recurses := true, loops := true, apart := false }
def TreeCountsSaid : Prop := treeCountsRow.holds Try.pinned (OpenSpec.ofChange treeCountsSpec)

/-- ITS FALSE NEIGHBOUR: 'it returns false'. Refute it at one input. -/
def treeCountsWrong : ChangeSpec := { name := "treeCounts", fn := fun _ => fun
  | [d1, d2] => { results := [.lit (.bool false)], args := [d1, d2] }
  | _ => none }
def TreeCountsWrongFalsely : Prop := treeCountsRow.holds Try.pinned (OpenSpec.ofChange treeCountsWrong)

/-- 'lustrumlaw10.TreeSame': WHATEVER THE INPUT: true; the input reads as it did. -/
def treeSameSpec : ChangeSpec := { name := "treeSame", fn := fun _ => fun
  | [d1, d2] => { results := [.lit (.bool true)], args := [d1, d2] }
  | _ => none }
def treeSameRow : OpenClaim := { program := "ytfehdlkklfcnpaa", sum := "e0475629595cf74b819ff0957e85405595806b8519162289d4ef6500fe94ce7f", func := "lustrum/lustrumlaw10.TreeSame", spec := "treeSame", unfollowed := true, recurses := true, loops := true, apart := false }
def TreeSameSaid : Prop := treeSameRow.holds Try.pinned (OpenSpec.ofChange treeSameSpec)

/-- ITS FALSE NEIGHBOUR: 'it returns false'. Refute it at one input. -/
def treeSameWrong : ChangeSpec := { name := "treeSame", fn := fun _ => fun
  | [d1, d2] => { results := [.lit (.bool false)], args := [d1, d2] }
  | _ => none }
def TreeSameWrongFalsely : Prop := treeSameRow.holds Try.pinned (OpenSpec.ofChange treeSameWrong)

/-- 'lustrumlaw11.PrintIs': WHATEVER THE INPUT: true; the input reads as it did. -/
def printIsSpec : ChangeSpec := { name := "printIs", fn := fun _ => fun
  | [d] => { results := [.lit (.bool true)], args := [d] }
  | _ => none }
def printIsRow : OpenClaim := { program := "ytfehdlkklfcnpaa", sum := "e0475629595cf74b819ff0957e85405595806b8519162289d4ef6500fe94ce7f", func := "lustrum/lustrumlaw11.PrintIs", spec := "printIs", inPlace := ["internal/abi.NoEscape", "internal/bytealg.MakeNoZero"], unfollowed := true, recurses := true, loops := true, apart := false }
def PrintIsSaid : Prop := printIsRow.holds Try.pinned (OpenSpec.ofChange printIsSpec)

/-- ITS FALSE NEIGHBOUR: 'it returns false'. Refute it at one input. -/
def printIsWrong : ChangeSpec := { name := "printIs", fn := fun _ => fun
  | [d] => { results := [.lit (.bool false)], args := [d] }
  | _ => none }
def PrintIsWrongFalsely : Prop := printIsRow.holds Try.pinned (OpenSpec.ofChange printIsWrong)

/-- 'lustrumlaw11.PrintParts': WHATEVER THE INPUT: true; the input reads as it did. -/
def printPartsSpec : ChangeSpec := { name := "printParts", fn := fun _ => fun
  | [d] => { results := [.lit (.bool true)], args := [d] }
  | _ => none }
def printPartsRow : OpenClaim := { program := "ytfehdlkklfcnpaa", sum := "e0475629595cf74b819ff0957e85405595806b8519162289d4ef6500fe94ce7f", func := "lustrum/lustrumlaw11.PrintParts", spec := "printParts", inPlace := ["internal/abi.NoEscape", "internal/bytealg.MakeNoZero"], unfollowed := true, recurses := true, loops := true, apart := false }
def PrintPartsSaid : Prop := printPartsRow.holds Try.pinned (OpenSpec.ofChange printPartsSpec)

/-- ITS FALSE NEIGHBOUR: 'it returns false'. Refute it at one input. -/
def printPartsWrong : ChangeSpec := { name := "printParts", fn := fun _ => fun
  | [d] => { results := [.lit (.bool false)], args := [d] }
  | _ => none }
def PrintPartsWrongFalsely : Prop := printPartsRow.holds Try.pinned (OpenSpec.ofChange printPartsWrong)

/-- 'lustrumlaw11.PrintApart': WHATEVER THE INPUT: true; the input reads as it did. -/
def printApartSpec : ChangeSpec := { name := "printApart", fn := fun _ => fun
  | [d1, d2] => { results := [.lit (.bool true)], args := [d1, d2] }
  | _ => none }
def printApartRow : OpenClaim := { program := "ytfehdlkklfcnpaa", sum := "e0475629595cf74b819ff0957e85405595806b8519162289d4ef6500fe94ce7f", func := "lustrum/lustrumlaw11.PrintApart", spec := "printApart", inPlace := ["internal/abi.NoEscape", "internal/bytealg.MakeNoZero"], unfollowed := true, recurses := true, loops := true, apart := false }
def PrintApartSaid : Prop := printApartRow.holds Try.pinned (OpenSpec.ofChange printApartSpec)

/-- ITS FALSE NEIGHBOUR: 'it returns false'. Refute it at one input. -/
def printApartWrong : ChangeSpec := { name := "printApart", fn := fun _ => fun
  | [d1, d2] => { results := [.lit (.bool false)], args := [d1, d2] }
  | _ => none }
def PrintApartWrongFalsely : Prop := printApartRow.holds Try.pinned (OpenSpec.ofChange printApartWrong)

/-- 'lustrumlaw11.PrintLex': WHATEVER THE INPUT: true; the input reads as it did. -/
def printLexSpec : ChangeSpec := { name := "printLex", fn := fun _ => fun
  | [d] => { results := [.lit (.bool true)], args := [d] }
  | _ => none }
def printLexRow : OpenClaim := { program := "ytfehdlkklfcnpaa", sum := "e0475629595cf74b819ff0957e85405595806b8519162289d4ef6500fe94ce7f", func := "lustrum/lustrumlaw11.PrintLex", spec := "printLex", inPlace := ["internal/abi.NoEscape", "internal/bytealg.MakeNoZero", "internal/bytealg.IndexByteString"], unfollowed := true, recurses := true, loops := true, apart := false }
def PrintLexSaid : Prop := printLexRow.holds Try.pinned (OpenSpec.ofChange printLexSpec)

/-- ITS FALSE NEIGHBOUR: 'it returns false'. Refute it at one input. -/
def printLexWrong : ChangeSpec := { name := "printLex", fn := fun _ => fun
  | [d] => { results := [.lit (.bool false)], args := [d] }
  | _ => none }
def PrintLexWrongFalsely : Prop := printLexRow.holds Try.pinned (OpenSpec.ofChange printLexWrong)

/-- 'lustrumlaw12.CanonIs': WHATEVER THE INPUT: true; the input reads as it did. -/
def canonIsSpec : ChangeSpec := { name := "canonIs", fn := fun _ => fun
  | [d] => { results := [.lit (.bool true)], args := [d] }
  | _ => none }
def canonIsRow : OpenClaim := { program := "ytfehdlkklfcnpaa", sum := "e0475629595cf74b819ff0957e85405595806b8519162289d4ef6500fe94ce7f", func := "lustrum/lustrumlaw12.CanonIs", spec := "canonIs", inPlace := ["internal/abi.NoEscape", "internal/bytealg.MakeNoZero"], unfollowed := true, recurses := true, loops := true, apart := false }
def CanonIsSaid : Prop := canonIsRow.holds Try.pinned (OpenSpec.ofChange canonIsSpec)

/-- ITS FALSE NEIGHBOUR: 'it returns false'. Refute it at one input. -/
def canonIsWrong : ChangeSpec := { name := "canonIs", fn := fun _ => fun
  | [d] => { results := [.lit (.bool false)], args := [d] }
  | _ => none }
def CanonIsWrongFalsely : Prop := canonIsRow.holds Try.pinned (OpenSpec.ofChange canonIsWrong)

/-- 'lustrumlaw12.CanonOnce': WHATEVER THE INPUT: true; the input reads as it did. -/
def canonOnceSpec : ChangeSpec := { name := "canonOnce", fn := fun _ => fun
  | [d] => { results := [.lit (.bool true)], args := [d] }
  | _ => none }
def canonOnceRow : OpenClaim := { program := "ytfehdlkklfcnpaa", sum := "e0475629595cf74b819ff0957e85405595806b8519162289d4ef6500fe94ce7f", func := "lustrum/lustrumlaw12.CanonOnce", spec := "canonOnce", inPlace := ["internal/abi.NoEscape", "internal/bytealg.MakeNoZero"], unfollowed := true, recurses := true, loops := true, apart := false }
def CanonOnceSaid : Prop := canonOnceRow.holds Try.pinned (OpenSpec.ofChange canonOnceSpec)

/-- ITS FALSE NEIGHBOUR: 'it returns false'. Refute it at one input. -/
def canonOnceWrong : ChangeSpec := { name := "canonOnce", fn := fun _ => fun
  | [d] => { results := [.lit (.bool false)], args := [d] }
  | _ => none }
def CanonOnceWrongFalsely : Prop := canonOnceRow.holds Try.pinned (OpenSpec.ofChange canonOnceWrong)

/-- 'lustrumlaw12.CanonOrder': WHATEVER THE INPUT: true; the input reads as it did. -/
def canonOrderSpec : ChangeSpec := { name := "canonOrder", fn := fun _ => fun
  | [d] => { results := [.lit (.bool true)], args := [d] }
  | _ => none }
def canonOrderRow : OpenClaim := { program := "ytfehdlkklfcnpaa", sum := "e0475629595cf74b819ff0957e85405595806b8519162289d4ef6500fe94ce7f", func := "lustrum/lustrumlaw12.CanonOrder", spec := "canonOrder", inPlace := ["internal/abi.NoEscape", "internal/bytealg.MakeNoZero"], unfollowed := true, recurses := true, loops := true, apart := false }
def CanonOrderSaid : Prop := canonOrderRow.holds Try.pinned (OpenSpec.ofChange canonOrderSpec)

/-- ITS FALSE NEIGHBOUR: 'it returns false'. Refute it at one input. -/
def canonOrderWrong : ChangeSpec := { name := "canonOrder", fn := fun _ => fun
  | [d] => { results := [.lit (.bool false)], args := [d] }
  | _ => none }
def CanonOrderWrongFalsely : Prop := canonOrderRow.holds Try.pinned (OpenSpec.ofChange canonOrderWrong)

/-- 'lustrumlaw12.CanonParts': WHATEVER THE INPUT: true; the input reads as it did. -/
def canonPartsSpec : ChangeSpec := { name := "canonParts", fn := fun _ => fun
  | [d] => { results := [.lit (.bool true)], args := [d] }
  | _ => none }
def canonPartsRow : OpenClaim := { program := "ytfehdlkklfcnpaa", sum := "e0475629595cf74b819ff0957e85405595806b8519162289d4ef6500fe94ce7f", func := "lustrum/lustrumlaw12.CanonParts", spec := "canonParts", inPlace := ["internal/abi.NoEscape", "internal/bytealg.MakeNoZero"], unfollowed := true, recurses := true, loops := true, apart := false }
def CanonPartsSaid : Prop := canonPartsRow.holds Try.pinned (OpenSpec.ofChange canonPartsSpec)

/-- ITS FALSE NEIGHBOUR: 'it returns false'. Refute it at one input. -/
def canonPartsWrong : ChangeSpec := { name := "canonParts", fn := fun _ => fun
  | [d] => { results := [.lit (.bool false)], args := [d] }
  | _ => none }
def CanonPartsWrongFalsely : Prop := canonPartsRow.holds Try.pinned (OpenSpec.ofChange canonPartsWrong)

/-- 'lustrumlaw12.CanonMore': WHATEVER THE INPUT: true; the input reads as it did. -/
def canonMoreSpec : ChangeSpec := { name := "canonMore", fn := fun _ => fun
  | [d] => { results := [.lit (.bool true)], args := [d] }
  | _ => none }
def canonMoreRow : OpenClaim := { program := "ytfehdlkklfcnpaa", sum := "e0475629595cf74b819ff0957e85405595806b8519162289d4ef6500fe94ce7f", func := "lustrum/lustrumlaw12.CanonMore", spec := "canonMore", inPlace := ["internal/abi.NoEscape", "internal/bytealg.MakeNoZero"], unfollowed := true, recurses := true, loops := true, apart := false }
def CanonMoreSaid : Prop := canonMoreRow.holds Try.pinned (OpenSpec.ofChange canonMoreSpec)

/-- ITS FALSE NEIGHBOUR: 'it returns false'. Refute it at one input. -/
def canonMoreWrong : ChangeSpec := { name := "canonMore", fn := fun _ => fun
  | [d] => { results := [.lit (.bool false)], args := [d] }
  | _ => none }
def CanonMoreWrongFalsely : Prop := canonMoreRow.holds Try.pinned (OpenSpec.ofChange canonMoreWrong)

/- THE SECOND FORM. 'bulk': how many values and letters a reading holds, each counted each time it is reached (what is shared counts as often as it is met; a slice's spare places count too). A statement '..UptoSaid' is the law's where the arguments, and the package variables that the reading takes, are together of bulk at most 1048576: NARROWER than '..Said'. Prove '..Said' where nothing that the law and all that it calls make is longer than what came in: it says more and counts as full. Else prove '..UptoSaid'. A law counts once. -/
mutual
def uptoBulk {H : Type} : DataW H → Nat
  | .lit (.string bytes) => bytes.length + 1
  | .lit _ => 1
  | .nil => 1
  | .ptr d => uptoBulk d + 1
  | .slice elems spare => uptoBulkAll elems + uptoBulkAll spare + 1
  | .agg parts => uptoBulkAll parts + 1
  | .iface _ d => uptoBulk d + 1
  | .map entries => uptoBulkEntries entries + 1
  | .held _ => 1
def uptoBulkAll {H : Type} : List (DataW H) → Nat
  | [] => 0
  | d :: r => uptoBulk d + uptoBulkAll r
def uptoBulkEntries {H : Type} : List (Lit × DataW H) → Nat
  | [] => 0
  | x :: r => uptoBulkEntry x + uptoBulkEntries r
def uptoBulkEntry {H : Type} : Lit × DataW H → Nat
  | (.string bytes, d) => bytes.length + uptoBulk d + 1
  | (_, d) => uptoBulk d + 1
 end
def uptoSmall : (H : Type) → List (DataW H) → Bool := fun _ ds => decide (uptoBulkAll ds ≤ 1048576)
def OpenSpec.upto (s : _root_.Go.ChangeSpec) : _root_.Go.OpenSpec := { _root_.Go.OpenSpec.ofChange s with cond := some uptoSmall }

/-- 'lustrumlaw10.TreeIs', WHERE WHAT IT READS IS OF BULK AT MOST 1048576: true; the input reads as it did. -/
def treeIsUptoRow : OpenClaim := { program := "ytfehdlkklfcnpaa", sum := "e0475629595cf74b819ff0957e85405595806b8519162289d4ef6500fe94ce7f", func := "lustrum/lustrumlaw10.TreeIs", spec := "treeIs", unfollowed := true, recurses := true, loops := true, apart := false, narrowed := true }
def TreeIsUptoSaid : Prop := treeIsUptoRow.holds Try.pinned (OpenSpec.upto treeIsSpec)

/-- 'lustrumlaw10.TreeMade', WHERE WHAT IT READS IS OF BULK AT MOST 1048576: true; the input reads as it did. -/
def treeMadeUptoRow : OpenClaim := { program := "ytfehdlkklfcnpaa", sum := "e0475629595cf74b819ff0957e85405595806b8519162289d4ef6500fe94ce7f", func := "lustrum/lustrumlaw10.TreeMade", spec := "treeMade", unfollowed := true, recurses := true, loops := true, apart := false, narrowed := true }
def TreeMadeUptoSaid : Prop := treeMadeUptoRow.holds Try.pinned (OpenSpec.upto treeMadeSpec)

/-- 'lustrumlaw10.TreeCounts', WHERE WHAT IT READS IS OF BULK AT MOST 1048576: true; the input reads as it did. -/
def treeCountsUptoRow : OpenClaim := { program := "ytfehdlkklfcnpaa", sum := "e0475629595cf74b819ff0957e85405595806b8519162289d4ef6500fe94ce7f", func := "lustrum/lustrumlaw10.TreeCounts", spec := "treeCounts", unfollowed := true, recurses := true, loops := true, apart := false, narrowed := true }
def TreeCountsUptoSaid : Prop := treeCountsUptoRow.holds Try.pinned (OpenSpec.upto treeCountsSpec)

/-- 'lustrumlaw10.TreeSame', WHERE WHAT IT READS IS OF BULK AT MOST 1048576: true; the input reads as it did. -/
def treeSameUptoRow : OpenClaim := { program := "ytfehdlkklfcnpaa", sum := "e0475629595cf74b819ff0957e85405595806b8519162289d4ef6500fe94ce7f", func := "lustrum/lustrumlaw10.TreeSame", spec := "treeSame", unfollowed := true, recurses := true, loops := true, apart := false, narrowed := true }
def TreeSameUptoSaid : Prop := treeSameUptoRow.holds Try.pinned (OpenSpec.upto treeSameSpec)

/-- 'lustrumlaw11.PrintIs', WHERE WHAT IT READS IS OF BULK AT MOST 1048576: true; the input reads as it did. -/
def printIsUptoRow : OpenClaim := { program := "ytfehdlkklfcnpaa", sum := "e0475629595cf74b819ff0957e85405595806b8519162289d4ef6500fe94ce7f", func := "lustrum/lustrumlaw11.PrintIs", spec := "printIs", inPlace := ["internal/abi.NoEscape", "internal/bytealg.MakeNoZero"], unfollowed := true, recurses := true, loops := true, apart := false, narrowed := true }
def PrintIsUptoSaid : Prop := printIsUptoRow.holds Try.pinned (OpenSpec.upto printIsSpec)

/-- 'lustrumlaw11.PrintParts', WHERE WHAT IT READS IS OF BULK AT MOST 1048576: true; the input reads as it did. -/
def printPartsUptoRow : OpenClaim := { program := "ytfehdlkklfcnpaa", sum := "e0475629595cf74b819ff0957e85405595806b8519162289d4ef6500fe94ce7f", func := "lustrum/lustrumlaw11.PrintParts", spec := "printParts", inPlace := ["internal/abi.NoEscape", "internal/bytealg.MakeNoZero"], unfollowed := true, recurses := true, loops := true, apart := false, narrowed := true }
def PrintPartsUptoSaid : Prop := printPartsUptoRow.holds Try.pinned (OpenSpec.upto printPartsSpec)

/-- 'lustrumlaw11.PrintApart', WHERE WHAT IT READS IS OF BULK AT MOST 1048576: true; the input reads as it did. -/
def printApartUptoRow : OpenClaim := { program := "ytfehdlkklfcnpaa", sum := "e0475629595cf74b819ff0957e85405595806b8519162289d4ef6500fe94ce7f", func := "lustrum/lustrumlaw11.PrintApart", spec := "printApart", inPlace := ["internal/abi.NoEscape", "internal/bytealg.MakeNoZero"], unfollowed := true, recurses := true, loops := true, apart := false, narrowed := true }
def PrintApartUptoSaid : Prop := printApartUptoRow.holds Try.pinned (OpenSpec.upto printApartSpec)

/-- 'lustrumlaw11.PrintLex', WHERE WHAT IT READS IS OF BULK AT MOST 1048576: true; the input reads as it did. -/
def printLexUptoRow : OpenClaim := { program := "ytfehdlkklfcnpaa", sum := "e0475629595cf74b819ff0957e85405595806b8519162289d4ef6500fe94ce7f", func := "lustrum/lustrumlaw11.PrintLex", spec := "printLex", inPlace := ["internal/abi.NoEscape", "internal/bytealg.MakeNoZero", "internal/bytealg.IndexByteString"], unfollowed := true, recurses := true, loops := true, apart := false, narrowed := true }
def PrintLexUptoSaid : Prop := printLexUptoRow.holds Try.pinned (OpenSpec.upto printLexSpec)

/-- 'lustrumlaw12.CanonIs', WHERE WHAT IT READS IS OF BULK AT MOST 1048576: true; the input reads as it did. -/
def canonIsUptoRow : OpenClaim := { program := "ytfehdlkklfcnpaa", sum := "e0475629595cf74b819ff0957e85405595806b8519162289d4ef6500fe94ce7f", func := "lustrum/lustrumlaw12.CanonIs", spec := "canonIs", inPlace := ["internal/abi.NoEscape", "internal/bytealg.MakeNoZero"], unfollowed := true, recurses := true, loops := true, apart := false, narrowed := true }
def CanonIsUptoSaid : Prop := canonIsUptoRow.holds Try.pinned (OpenSpec.upto canonIsSpec)

/-- 'lustrumlaw12.CanonOnce', WHERE WHAT IT READS IS OF BULK AT MOST 1048576: true; the input reads as it did. -/
def canonOnceUptoRow : OpenClaim := { program := "ytfehdlkklfcnpaa", sum := "e0475629595cf74b819ff0957e85405595806b8519162289d4ef6500fe94ce7f", func := "lustrum/lustrumlaw12.CanonOnce", spec := "canonOnce", inPlace := ["internal/abi.NoEscape", "internal/bytealg.MakeNoZero"], unfollowed := true, recurses := true, loops := true, apart := false, narrowed := true }
def CanonOnceUptoSaid : Prop := canonOnceUptoRow.holds Try.pinned (OpenSpec.upto canonOnceSpec)

/-- 'lustrumlaw12.CanonOrder', WHERE WHAT IT READS IS OF BULK AT MOST 1048576: true; the input reads as it did. -/
def canonOrderUptoRow : OpenClaim := { program := "ytfehdlkklfcnpaa", sum := "e0475629595cf74b819ff0957e85405595806b8519162289d4ef6500fe94ce7f", func := "lustrum/lustrumlaw12.CanonOrder", spec := "canonOrder", inPlace := ["internal/abi.NoEscape", "internal/bytealg.MakeNoZero"], unfollowed := true, recurses := true, loops := true, apart := false, narrowed := true }
def CanonOrderUptoSaid : Prop := canonOrderUptoRow.holds Try.pinned (OpenSpec.upto canonOrderSpec)

/-- 'lustrumlaw12.CanonParts', WHERE WHAT IT READS IS OF BULK AT MOST 1048576: true; the input reads as it did. -/
def canonPartsUptoRow : OpenClaim := { program := "ytfehdlkklfcnpaa", sum := "e0475629595cf74b819ff0957e85405595806b8519162289d4ef6500fe94ce7f", func := "lustrum/lustrumlaw12.CanonParts", spec := "canonParts", inPlace := ["internal/abi.NoEscape", "internal/bytealg.MakeNoZero"], unfollowed := true, recurses := true, loops := true, apart := false, narrowed := true }
def CanonPartsUptoSaid : Prop := canonPartsUptoRow.holds Try.pinned (OpenSpec.upto canonPartsSpec)

/-- 'lustrumlaw12.CanonMore', WHERE WHAT IT READS IS OF BULK AT MOST 1048576: true; the input reads as it did. -/
def canonMoreUptoRow : OpenClaim := { program := "ytfehdlkklfcnpaa", sum := "e0475629595cf74b819ff0957e85405595806b8519162289d4ef6500fe94ce7f", func := "lustrum/lustrumlaw12.CanonMore", spec := "canonMore", inPlace := ["internal/abi.NoEscape", "internal/bytealg.MakeNoZero"], unfollowed := true, recurses := true, loops := true, apart := false, narrowed := true }
def CanonMoreUptoSaid : Prop := canonMoreUptoRow.holds Try.pinned (OpenSpec.upto canonMoreSpec)

end Rows
end Go.Proofs.Ytfehdlkklfcnpaa
