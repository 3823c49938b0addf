/-
  NARROWER THAN 'FOR EVERY INPUT', by the rows' own cells (each row's printed sentence says how): ParseBack: loops · ParseCut: loops.
  DERIVED. THE GIVEN ROWS OF THIS SEAT. 4 by the template 'for every input the law returns true; each argument reads behind the call as it read before'; 0 by the template 'total and deterministic' (their statements: YtjgjhekpiijniaaGreatTotals.lean).
  GIVEN WITH THE SEED: the statements are not yours to turn. If you find one false, say at which input.
  Laid BY PROGRAM, IN A SANDBOX (cutbox-rows.mjs): the forced cells as the released guide's own fill.sh prints them over the translation 5cb3fc2d374c62bb… (all of the seat's roots in one cut). By AI agents, Wed Nov 11 2026. No macro, syntax, notation, axiom, sorry.
-/
import Derived.Test.YtjgjhekpiijniaaGreatChecked
import GoSem.Claim
import GoSem.ClaimJoined
import GoSem.ClaimMapViews
import Derived.JoinedTies
import Derived.KernelRfl
namespace Go.Proofs.YtjgjhekpiijniaaGreat
/- THE CELL 'sum', in the pinned program and in every row, IS THE sha256 OF THE DUMP (.gsa) THAT YtjgjhekpiijniaaGreatProg.lean LOADS. Nothing in Lean hashes anything: it is a label: what it is worth is what the hold of that sum in a sandbox is worth. -/
noncomputable def Tryz.pinned : Pinned := { name := "ytjgjhekpiijniaagreat", sum := "5cb3fc2d374c62bbadb96c86b3955fefc62d391e354cf8bf38581e80fd527f8e", checked := Tryz.checked }
namespace Rows
def none {H : Type} : Left H := { results := [], args := [] }

/-- 'lustrumlaw13.ParseIs': WHATEVER THE INPUT: true; the input reads as it did. -/
def parseIsSpec : ChangeSpec := { name := "parseIs", fn := fun _ => fun
  | [d] => { results := [.lit (.bool true)], args := [d] }
  | _ => none }
def parseIsRow : OpenClaim := { program := "ytjgjhekpiijniaagreat", sum := "5cb3fc2d374c62bbadb96c86b3955fefc62d391e354cf8bf38581e80fd527f8e", func := "lustrum/lustrumlaw13.ParseIs", spec := "parseIs", inPlace := ["internal/bytealg.IndexByteString", "internal/bytealg.IndexString", "internal/abi.NoEscape", "internal/bytealg.MakeNoZero"], unfollowed := true, recurses := true, named := ["internal/bytealg.MaxLen"], apart := false }
def ParseIsSaid : Prop := parseIsRow.holds Tryz.pinned (OpenSpec.ofChange parseIsSpec)

/-- ITS FALSE NEIGHBOUR: 'it returns false'. Refute it at one input. -/
def parseIsWrong : ChangeSpec := { name := "parseIs", fn := fun _ => fun
  | [d] => { results := [.lit (.bool false)], args := [d] }
  | _ => none }
def ParseIsWrongFalsely : Prop := parseIsRow.holds Tryz.pinned (OpenSpec.ofChange parseIsWrong)

/-- 'lustrumlaw13.ParseBack': WHATEVER THE INPUT: true; the input reads as it did. -/
def parseBackSpec : ChangeSpec := { name := "parseBack", fn := fun _ => fun
  | [d] => { results := [.lit (.bool true)], args := [d] }
  | _ => none }
def parseBackRow : OpenClaim := { program := "ytjgjhekpiijniaagreat", sum := "5cb3fc2d374c62bbadb96c86b3955fefc62d391e354cf8bf38581e80fd527f8e", func := "lustrum/lustrumlaw13.ParseBack", spec := "parseBack", inPlace := ["internal/bytealg.IndexByteString", "internal/bytealg.IndexString", "internal/abi.NoEscape", "internal/bytealg.MakeNoZero"], unfollowed := true, recurses := true, named := ["internal/bytealg.MaxLen"], loops := true, apart := false }
def ParseBackSaid : Prop := parseBackRow.holds Tryz.pinned (OpenSpec.ofChange parseBackSpec)

/-- ITS FALSE NEIGHBOUR: 'it returns false'. Refute it at one input. -/
def parseBackWrong : ChangeSpec := { name := "parseBack", fn := fun _ => fun
  | [d] => { results := [.lit (.bool false)], args := [d] }
  | _ => none }
def ParseBackWrongFalsely : Prop := parseBackRow.holds Tryz.pinned (OpenSpec.ofChange parseBackWrong)

/-- 'lustrumlaw13.ParseCut': WHATEVER THE INPUT: true; the input reads as it did. -/
def parseCutSpec : ChangeSpec := { name := "parseCut", fn := fun _ => fun
  | [d] => { results := [.lit (.bool true)], args := [d] }
  | _ => none }
def parseCutRow : OpenClaim := { program := "ytjgjhekpiijniaagreat", sum := "5cb3fc2d374c62bbadb96c86b3955fefc62d391e354cf8bf38581e80fd527f8e", func := "lustrum/lustrumlaw13.ParseCut", spec := "parseCut", inPlace := ["internal/bytealg.IndexByteString", "internal/bytealg.IndexString", "internal/abi.NoEscape", "internal/bytealg.MakeNoZero"], unfollowed := true, recurses := true, named := ["internal/bytealg.MaxLen"], loops := true, apart := false }
def ParseCutSaid : Prop := parseCutRow.holds Tryz.pinned (OpenSpec.ofChange parseCutSpec)

/-- ITS FALSE NEIGHBOUR: 'it returns false'. Refute it at one input. -/
def parseCutWrong : ChangeSpec := { name := "parseCut", fn := fun _ => fun
  | [d] => { results := [.lit (.bool false)], args := [d] }
  | _ => none }
def ParseCutWrongFalsely : Prop := parseCutRow.holds Tryz.pinned (OpenSpec.ofChange parseCutWrong)

/-- 'lustrumlaw13.ParseFixed': WHATEVER THE INPUT: true; the input reads as it did. -/
def parseFixedSpec : ChangeSpec := { name := "parseFixed", fn := fun _ => fun
  | [d] => { results := [.lit (.bool true)], args := [d] }
  | _ => none }
def parseFixedRow : OpenClaim := { program := "ytjgjhekpiijniaagreat", sum := "5cb3fc2d374c62bbadb96c86b3955fefc62d391e354cf8bf38581e80fd527f8e", func := "lustrum/lustrumlaw13.ParseFixed", spec := "parseFixed", inPlace := ["internal/bytealg.IndexByteString", "internal/bytealg.IndexString", "internal/abi.NoEscape", "internal/bytealg.MakeNoZero"], unfollowed := true, recurses := true, named := ["internal/bytealg.MaxLen"], apart := false }
def ParseFixedSaid : Prop := parseFixedRow.holds Tryz.pinned (OpenSpec.ofChange parseFixedSpec)

/-- ITS FALSE NEIGHBOUR: 'it returns false'. Refute it at one input. -/
def parseFixedWrong : ChangeSpec := { name := "parseFixed", fn := fun _ => fun
  | [d] => { results := [.lit (.bool false)], args := [d] }
  | _ => none }
def ParseFixedWrongFalsely : Prop := parseFixedRow.holds Tryz.pinned (OpenSpec.ofChange parseFixedWrong)

/- THE SECOND FORM. 'bulk': how many values and letters a reading holds, each counted each time it is reached (what is shared counts as often as it is met; a slice's spare places count too). A statement '..UptoSaid' is the law's where the arguments, and the package variables that the reading takes, are together of bulk at most 1048576: NARROWER than '..Said'. Prove '..Said' where nothing that the law and all that it calls make is longer than what came in: it says more and counts as full. Else prove '..UptoSaid'. A law counts once. -/
mutual
def uptoBulk {H : Type} : DataW H → Nat
  | .lit (.string bytes) => bytes.length + 1
  | .lit _ => 1
  | .nil => 1
  | .ptr d => uptoBulk d + 1
  | .slice elems spare => uptoBulkAll elems + uptoBulkAll spare + 1
  | .agg parts => uptoBulkAll parts + 1
  | .iface _ d => uptoBulk d + 1
  | .map entries => uptoBulkEntries entries + 1
  | .held _ => 1
def uptoBulkAll {H : Type} : List (DataW H) → Nat
  | [] => 0
  | d :: r => uptoBulk d + uptoBulkAll r
def uptoBulkEntries {H : Type} : List (Lit × DataW H) → Nat
  | [] => 0
  | x :: r => uptoBulkEntry x + uptoBulkEntries r
def uptoBulkEntry {H : Type} : Lit × DataW H → Nat
  | (.string bytes, d) => bytes.length + uptoBulk d + 1
  | (_, d) => uptoBulk d + 1
 end
def uptoSmall : (H : Type) → List (DataW H) → Bool := fun _ ds => decide (uptoBulkAll ds ≤ 1048576)
def OpenSpec.upto (s : _root_.Go.ChangeSpec) : _root_.Go.OpenSpec := { _root_.Go.OpenSpec.ofChange s with cond := some uptoSmall }

/-- 'lustrumlaw13.ParseIs', WHERE WHAT IT READS IS OF BULK AT MOST 1048576: true; the input reads as it did. -/
def parseIsUptoRow : OpenClaim := { program := "ytjgjhekpiijniaagreat", sum := "5cb3fc2d374c62bbadb96c86b3955fefc62d391e354cf8bf38581e80fd527f8e", func := "lustrum/lustrumlaw13.ParseIs", spec := "parseIs", inPlace := ["internal/bytealg.IndexByteString", "internal/bytealg.IndexString", "internal/abi.NoEscape", "internal/bytealg.MakeNoZero"], unfollowed := true, recurses := true, named := ["internal/bytealg.MaxLen"], apart := false, narrowed := true }
def ParseIsUptoSaid : Prop := parseIsUptoRow.holds Tryz.pinned (OpenSpec.upto parseIsSpec)

/-- 'lustrumlaw13.ParseBack', WHERE WHAT IT READS IS OF BULK AT MOST 1048576: true; the input reads as it did. -/
def parseBackUptoRow : OpenClaim := { program := "ytjgjhekpiijniaagreat", sum := "5cb3fc2d374c62bbadb96c86b3955fefc62d391e354cf8bf38581e80fd527f8e", func := "lustrum/lustrumlaw13.ParseBack", spec := "parseBack", inPlace := ["internal/bytealg.IndexByteString", "internal/bytealg.IndexString", "internal/abi.NoEscape", "internal/bytealg.MakeNoZero"], unfollowed := true, recurses := true, named := ["internal/bytealg.MaxLen"], loops := true, apart := false, narrowed := true }
def ParseBackUptoSaid : Prop := parseBackUptoRow.holds Tryz.pinned (OpenSpec.upto parseBackSpec)

/-- 'lustrumlaw13.ParseCut', WHERE WHAT IT READS IS OF BULK AT MOST 1048576: true; the input reads as it did. -/
def parseCutUptoRow : OpenClaim := { program := "ytjgjhekpiijniaagreat", sum := "5cb3fc2d374c62bbadb96c86b3955fefc62d391e354cf8bf38581e80fd527f8e", func := "lustrum/lustrumlaw13.ParseCut", spec := "parseCut", inPlace := ["internal/bytealg.IndexByteString", "internal/bytealg.IndexString", "internal/abi.NoEscape", "internal/bytealg.MakeNoZero"], unfollowed := true, recurses := true, named := ["internal/bytealg.MaxLen"], loops := true, apart := false, narrowed := true }
def ParseCutUptoSaid : Prop := parseCutUptoRow.holds Tryz.pinned (OpenSpec.upto parseCutSpec)

/-- 'lustrumlaw13.ParseFixed', WHERE WHAT IT READS IS OF BULK AT MOST 1048576: true; the input reads as it did. -/
def parseFixedUptoRow : OpenClaim := { program := "ytjgjhekpiijniaagreat", sum := "5cb3fc2d374c62bbadb96c86b3955fefc62d391e354cf8bf38581e80fd527f8e", func := "lustrum/lustrumlaw13.ParseFixed", spec := "parseFixed", inPlace := ["internal/bytealg.IndexByteString", "internal/bytealg.IndexString", "internal/abi.NoEscape", "internal/bytealg.MakeNoZero"], unfollowed := true, recurses := true, named := ["internal/bytealg.MaxLen"], apart := false, narrowed := true }
def ParseFixedUptoSaid : Prop := parseFixedUptoRow.holds Tryz.pinned (OpenSpec.upto parseFixedSpec)

end Rows
end Go.Proofs.YtjgjhekpiijniaaGreat
