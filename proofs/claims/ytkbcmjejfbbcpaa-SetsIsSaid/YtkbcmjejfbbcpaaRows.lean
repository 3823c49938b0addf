/-
  No cell of these rows narrows 'for every input' (looked for: loops, veiled, ifaces, maps, wideKeys, modest, calm, conditions, laid).
  DERIVED. THE GIVEN ROWS OF THIS SEAT. 13 by the template 'for every input the law returns true; each argument reads behind the call as it read before'; 0 by the template 'total and deterministic' (their statements: YtkbcmjejfbbcpaaTotals.lean).
  GIVEN WITH THE SEED: the statements are not yours to turn. If you find one false, say at which input.
  Laid BY PROGRAM, IN A SANDBOX (cutbox-rows.mjs): the forced cells as the released guide's own fill.sh prints them over the translation f38ec268ca01aba7… (all of the seat's roots in one cut). By AI agents, Wed Nov 11 2026. No macro, syntax, notation, axiom, sorry.
-/
import Derived.Test.YtkbcmjejfbbcpaaChecked
import GoSem.Claim
import GoSem.ClaimJoined
import GoSem.ClaimMapViews
import Derived.JoinedTies
import Derived.KernelRfl
namespace Go.Proofs.Ytkbcmjejfbbcpaa
/- THE CELL 'sum', in the pinned program and in every row, IS THE sha256 OF THE DUMP (.gsa) THAT YtkbcmjejfbbcpaaProg.lean LOADS. Nothing in Lean hashes anything: it is a label: what it is worth is what the hold of that sum in a sandbox is worth. -/
noncomputable def Try.pinned : Pinned := { name := "ytkbcmjejfbbcpaa", sum := "f38ec268ca01aba7a87174256960ab2a7663b42ee120af8075a6682b6f25a601", checked := Try.checked }
namespace Rows
def none {H : Type} : Left H := { results := [], args := [] }

/-- 'lustrumlaw05.SetsWide': WHATEVER THE INPUT: true; the input reads as it did. -/
def setsWideSpec : ChangeSpec := { name := "setsWide", fn := fun _ => fun
  | [d1, d2] => { results := [.lit (.bool true)], args := [d1, d2] }
  | _ => none }
def setsWideRow : OpenClaim := { program := "ytkbcmjejfbbcpaa", sum := "f38ec268ca01aba7a87174256960ab2a7663b42ee120af8075a6682b6f25a601", func := "lustrum/lustrumlaw05.SetsWide", spec := "setsWide", unfollowed := true, recurses := true, apart := false }
def SetsWideSaid : Prop := setsWideRow.holds Try.pinned (OpenSpec.ofChange setsWideSpec)

/-- ITS FALSE NEIGHBOUR: 'it returns false'. Refute it at one input. -/
def setsWideWrong : ChangeSpec := { name := "setsWide", fn := fun _ => fun
  | [d1, d2] => { results := [.lit (.bool false)], args := [d1, d2] }
  | _ => none }
def SetsWideWrongFalsely : Prop := setsWideRow.holds Try.pinned (OpenSpec.ofChange setsWideWrong)

/-- 'lustrumlaw04.RunsMake': WHATEVER THE INPUT: true; the input reads as it did. -/
def runsMakeSpec : ChangeSpec := { name := "runsMake", fn := fun _ => fun
  | [d1, d2] => { results := [.lit (.bool true)], args := [d1, d2] }
  | _ => none }
def runsMakeRow : OpenClaim := { program := "ytkbcmjejfbbcpaa", sum := "f38ec268ca01aba7a87174256960ab2a7663b42ee120af8075a6682b6f25a601", func := "lustrum/lustrumlaw04.RunsMake", spec := "runsMake", unfollowed := true, recurses := true, apart := false }
def RunsMakeSaid : Prop := runsMakeRow.holds Try.pinned (OpenSpec.ofChange runsMakeSpec)

/-- ITS FALSE NEIGHBOUR: 'it returns false'. Refute it at one input. -/
def runsMakeWrong : ChangeSpec := { name := "runsMake", fn := fun _ => fun
  | [d1, d2] => { results := [.lit (.bool false)], args := [d1, d2] }
  | _ => none }
def RunsMakeWrongFalsely : Prop := runsMakeRow.holds Try.pinned (OpenSpec.ofChange runsMakeWrong)

/-- 'lustrumlaw04.RunsOf': WHATEVER THE INPUT: true; the input reads as it did. -/
def runsOfSpec : ChangeSpec := { name := "runsOf", fn := fun _ => fun
  | [d1, d2] => { results := [.lit (.bool true)], args := [d1, d2] }
  | _ => none }
def runsOfRow : OpenClaim := { program := "ytkbcmjejfbbcpaa", sum := "f38ec268ca01aba7a87174256960ab2a7663b42ee120af8075a6682b6f25a601", func := "lustrum/lustrumlaw04.RunsOf", spec := "runsOf", unfollowed := true, recurses := true, apart := false }
def RunsOfSaid : Prop := runsOfRow.holds Try.pinned (OpenSpec.ofChange runsOfSpec)

/-- ITS FALSE NEIGHBOUR: 'it returns false'. Refute it at one input. -/
def runsOfWrong : ChangeSpec := { name := "runsOf", fn := fun _ => fun
  | [d1, d2] => { results := [.lit (.bool false)], args := [d1, d2] }
  | _ => none }
def RunsOfWrongFalsely : Prop := runsOfRow.holds Try.pinned (OpenSpec.ofChange runsOfWrong)

/-- 'lustrumlaw04.RunsOnce': WHATEVER THE INPUT: true; the input reads as it did. -/
def runsOnceSpec : ChangeSpec := { name := "runsOnce", fn := fun _ => fun
  | [d1, d2] => { results := [.lit (.bool true)], args := [d1, d2] }
  | _ => none }
def runsOnceRow : OpenClaim := { program := "ytkbcmjejfbbcpaa", sum := "f38ec268ca01aba7a87174256960ab2a7663b42ee120af8075a6682b6f25a601", func := "lustrum/lustrumlaw04.RunsOnce", spec := "runsOnce", unfollowed := true, recurses := true, apart := false }
def RunsOnceSaid : Prop := runsOnceRow.holds Try.pinned (OpenSpec.ofChange runsOnceSpec)

/-- ITS FALSE NEIGHBOUR: 'it returns false'. Refute it at one input. -/
def runsOnceWrong : ChangeSpec := { name := "runsOnce", fn := fun _ => fun
  | [d1, d2] => { results := [.lit (.bool false)], args := [d1, d2] }
  | _ => none }
def RunsOnceWrongFalsely : Prop := runsOnceRow.holds Try.pinned (OpenSpec.ofChange runsOnceWrong)

/-- 'lustrumlaw04.RunsIs': WHATEVER THE INPUT: true; the input reads as it did. -/
def runsIsSpec : ChangeSpec := { name := "runsIs", fn := fun _ => fun
  | [d1, d2, d3] => { results := [.lit (.bool true)], args := [d1, d2, d3] }
  | _ => none }
def runsIsRow : OpenClaim := { program := "ytkbcmjejfbbcpaa", sum := "f38ec268ca01aba7a87174256960ab2a7663b42ee120af8075a6682b6f25a601", func := "lustrum/lustrumlaw04.RunsIs", spec := "runsIs", unfollowed := true, recurses := true, apart := false }
def RunsIsSaid : Prop := runsIsRow.holds Try.pinned (OpenSpec.ofChange runsIsSpec)

/-- ITS FALSE NEIGHBOUR: 'it returns false'. Refute it at one input. -/
def runsIsWrong : ChangeSpec := { name := "runsIs", fn := fun _ => fun
  | [d1, d2, d3] => { results := [.lit (.bool false)], args := [d1, d2, d3] }
  | _ => none }
def RunsIsWrongFalsely : Prop := runsIsRow.holds Try.pinned (OpenSpec.ofChange runsIsWrong)

/-- 'lustrumlaw04.RunsNext': WHATEVER THE INPUT: true; the input reads as it did. -/
def runsNextSpec : ChangeSpec := { name := "runsNext", fn := fun _ => fun
  | [d1, d2] => { results := [.lit (.bool true)], args := [d1, d2] }
  | _ => none }
def runsNextRow : OpenClaim := { program := "ytkbcmjejfbbcpaa", sum := "f38ec268ca01aba7a87174256960ab2a7663b42ee120af8075a6682b6f25a601", func := "lustrum/lustrumlaw04.RunsNext", spec := "runsNext", unfollowed := true, recurses := true, apart := false }
def RunsNextSaid : Prop := runsNextRow.holds Try.pinned (OpenSpec.ofChange runsNextSpec)

/-- ITS FALSE NEIGHBOUR: 'it returns false'. Refute it at one input. -/
def runsNextWrong : ChangeSpec := { name := "runsNext", fn := fun _ => fun
  | [d1, d2] => { results := [.lit (.bool false)], args := [d1, d2] }
  | _ => none }
def RunsNextWrongFalsely : Prop := runsNextRow.holds Try.pinned (OpenSpec.ofChange runsNextWrong)

/-- 'lustrumlaw05.SetsLaws': WHATEVER THE INPUT: true; the input reads as it did. -/
def setsLawsSpec : ChangeSpec := { name := "setsLaws", fn := fun _ => fun
  | [d1, d2, d3] => { results := [.lit (.bool true)], args := [d1, d2, d3] }
  | _ => none }
def setsLawsRow : OpenClaim := { program := "ytkbcmjejfbbcpaa", sum := "f38ec268ca01aba7a87174256960ab2a7663b42ee120af8075a6682b6f25a601", func := "lustrum/lustrumlaw05.SetsLaws", spec := "setsLaws", unfollowed := true, recurses := true, apart := false }
def SetsLawsSaid : Prop := setsLawsRow.holds Try.pinned (OpenSpec.ofChange setsLawsSpec)

/-- ITS FALSE NEIGHBOUR: 'it returns false'. Refute it at one input. -/
def setsLawsWrong : ChangeSpec := { name := "setsLaws", fn := fun _ => fun
  | [d1, d2, d3] => { results := [.lit (.bool false)], args := [d1, d2, d3] }
  | _ => none }
def SetsLawsWrongFalsely : Prop := setsLawsRow.holds Try.pinned (OpenSpec.ofChange setsLawsWrong)

/-- 'lustrumlaw05.SetsIs': WHATEVER THE INPUT: true; the input reads as it did. -/
def setsIsSpec : ChangeSpec := { name := "setsIs", fn := fun _ => fun
  | [d1, d2, d3, d4] => { results := [.lit (.bool true)], args := [d1, d2, d3, d4] }
  | _ => none }
def setsIsRow : OpenClaim := { program := "ytkbcmjejfbbcpaa", sum := "f38ec268ca01aba7a87174256960ab2a7663b42ee120af8075a6682b6f25a601", func := "lustrum/lustrumlaw05.SetsIs", spec := "setsIs", unfollowed := true, recurses := true, apart := false }
def SetsIsSaid : Prop := setsIsRow.holds Try.pinned (OpenSpec.ofChange setsIsSpec)

/-- ITS FALSE NEIGHBOUR: 'it returns false'. Refute it at one input. -/
def setsIsWrong : ChangeSpec := { name := "setsIs", fn := fun _ => fun
  | [d1, d2, d3, d4] => { results := [.lit (.bool false)], args := [d1, d2, d3, d4] }
  | _ => none }
def SetsIsWrongFalsely : Prop := setsIsRow.holds Try.pinned (OpenSpec.ofChange setsIsWrong)

/-- 'lustrumlaw05.SetsGrow': WHATEVER THE INPUT: true; the input reads as it did. -/
def setsGrowSpec : ChangeSpec := { name := "setsGrow", fn := fun _ => fun
  | [d1, d2, d3, d4] => { results := [.lit (.bool true)], args := [d1, d2, d3, d4] }
  | _ => none }
def setsGrowRow : OpenClaim := { program := "ytkbcmjejfbbcpaa", sum := "f38ec268ca01aba7a87174256960ab2a7663b42ee120af8075a6682b6f25a601", func := "lustrum/lustrumlaw05.SetsGrow", spec := "setsGrow", unfollowed := true, recurses := true, apart := false }
def SetsGrowSaid : Prop := setsGrowRow.holds Try.pinned (OpenSpec.ofChange setsGrowSpec)

/-- ITS FALSE NEIGHBOUR: 'it returns false'. Refute it at one input. -/
def setsGrowWrong : ChangeSpec := { name := "setsGrow", fn := fun _ => fun
  | [d1, d2, d3, d4] => { results := [.lit (.bool false)], args := [d1, d2, d3, d4] }
  | _ => none }
def SetsGrowWrongFalsely : Prop := setsGrowRow.holds Try.pinned (OpenSpec.ofChange setsGrowWrong)

/-- 'lustrumlaw05.SetsClip': WHATEVER THE INPUT: true; the input reads as it did. -/
def setsClipSpec : ChangeSpec := { name := "setsClip", fn := fun _ => fun
  | [d1, d2, d3, d4] => { results := [.lit (.bool true)], args := [d1, d2, d3, d4] }
  | _ => none }
def setsClipRow : OpenClaim := { program := "ytkbcmjejfbbcpaa", sum := "f38ec268ca01aba7a87174256960ab2a7663b42ee120af8075a6682b6f25a601", func := "lustrum/lustrumlaw05.SetsClip", spec := "setsClip", unfollowed := true, recurses := true, apart := false }
def SetsClipSaid : Prop := setsClipRow.holds Try.pinned (OpenSpec.ofChange setsClipSpec)

/-- ITS FALSE NEIGHBOUR: 'it returns false'. Refute it at one input. -/
def setsClipWrong : ChangeSpec := { name := "setsClip", fn := fun _ => fun
  | [d1, d2, d3, d4] => { results := [.lit (.bool false)], args := [d1, d2, d3, d4] }
  | _ => none }
def SetsClipWrongFalsely : Prop := setsClipRow.holds Try.pinned (OpenSpec.ofChange setsClipWrong)

/-- 'lustrumlaw05.SetsCounts': WHATEVER THE INPUT: true; the input reads as it did. -/
def setsCountsSpec : ChangeSpec := { name := "setsCounts", fn := fun _ => fun
  | [d1, d2] => { results := [.lit (.bool true)], args := [d1, d2] }
  | _ => none }
def setsCountsRow : OpenClaim := { program := "ytkbcmjejfbbcpaa", sum := "f38ec268ca01aba7a87174256960ab2a7663b42ee120af8075a6682b6f25a601", func := "lustrum/lustrumlaw05.SetsCounts", spec := "setsCounts", unfollowed := true, recurses := true, apart := false }
def SetsCountsSaid : Prop := setsCountsRow.holds Try.pinned (OpenSpec.ofChange setsCountsSpec)

/-- ITS FALSE NEIGHBOUR: 'it returns false'. Refute it at one input. -/
def setsCountsWrong : ChangeSpec := { name := "setsCounts", fn := fun _ => fun
  | [d1, d2] => { results := [.lit (.bool false)], args := [d1, d2] }
  | _ => none }
def SetsCountsWrongFalsely : Prop := setsCountsRow.holds Try.pinned (OpenSpec.ofChange setsCountsWrong)

/-- 'lustrumlaw05.SetsShift': WHATEVER THE INPUT: true; the input reads as it did. -/
def setsShiftSpec : ChangeSpec := { name := "setsShift", fn := fun _ => fun
  | [d1, d2, d3] => { results := [.lit (.bool true)], args := [d1, d2, d3] }
  | _ => none }
def setsShiftRow : OpenClaim := { program := "ytkbcmjejfbbcpaa", sum := "f38ec268ca01aba7a87174256960ab2a7663b42ee120af8075a6682b6f25a601", func := "lustrum/lustrumlaw05.SetsShift", spec := "setsShift", unfollowed := true, recurses := true, apart := false }
def SetsShiftSaid : Prop := setsShiftRow.holds Try.pinned (OpenSpec.ofChange setsShiftSpec)

/-- ITS FALSE NEIGHBOUR: 'it returns false'. Refute it at one input. -/
def setsShiftWrong : ChangeSpec := { name := "setsShift", fn := fun _ => fun
  | [d1, d2, d3] => { results := [.lit (.bool false)], args := [d1, d2, d3] }
  | _ => none }
def SetsShiftWrongFalsely : Prop := setsShiftRow.holds Try.pinned (OpenSpec.ofChange setsShiftWrong)

/-- 'lustrumlaw05.SetsHas': WHATEVER THE INPUT: true; the input reads as it did. -/
def setsHasSpec : ChangeSpec := { name := "setsHas", fn := fun _ => fun
  | [d1, d2, d3] => { results := [.lit (.bool true)], args := [d1, d2, d3] }
  | _ => none }
def setsHasRow : OpenClaim := { program := "ytkbcmjejfbbcpaa", sum := "f38ec268ca01aba7a87174256960ab2a7663b42ee120af8075a6682b6f25a601", func := "lustrum/lustrumlaw05.SetsHas", spec := "setsHas", unfollowed := true, recurses := true, apart := false }
def SetsHasSaid : Prop := setsHasRow.holds Try.pinned (OpenSpec.ofChange setsHasSpec)

/-- ITS FALSE NEIGHBOUR: 'it returns false'. Refute it at one input. -/
def setsHasWrong : ChangeSpec := { name := "setsHas", fn := fun _ => fun
  | [d1, d2, d3] => { results := [.lit (.bool false)], args := [d1, d2, d3] }
  | _ => none }
def SetsHasWrongFalsely : Prop := setsHasRow.holds Try.pinned (OpenSpec.ofChange setsHasWrong)

/- THE SECOND FORM. 'bulk': how many values and letters a reading holds, each counted each time it is reached (what is shared counts as often as it is met; a slice's spare places count too). A statement '..UptoSaid' is the law's where the arguments, and the package variables that the reading takes, are together of bulk at most 1048576: NARROWER than '..Said'. Prove '..Said' where nothing that the law and all that it calls make is longer than what came in: it says more and counts as full. Else prove '..UptoSaid'. A law counts once. -/
mutual
def uptoBulk {H : Type} : DataW H → Nat
  | .lit (.string bytes) => bytes.length + 1
  | .lit _ => 1
  | .nil => 1
  | .ptr d => uptoBulk d + 1
  | .slice elems spare => uptoBulkAll elems + uptoBulkAll spare + 1
  | .agg parts => uptoBulkAll parts + 1
  | .iface _ d => uptoBulk d + 1
  | .map entries => uptoBulkEntries entries + 1
  | .held _ => 1
def uptoBulkAll {H : Type} : List (DataW H) → Nat
  | [] => 0
  | d :: r => uptoBulk d + uptoBulkAll r
def uptoBulkEntries {H : Type} : List (Lit × DataW H) → Nat
  | [] => 0
  | x :: r => uptoBulkEntry x + uptoBulkEntries r
def uptoBulkEntry {H : Type} : Lit × DataW H → Nat
  | (.string bytes, d) => bytes.length + uptoBulk d + 1
  | (_, d) => uptoBulk d + 1
 end
def uptoSmall : (H : Type) → List (DataW H) → Bool := fun _ ds => decide (uptoBulkAll ds ≤ 1048576)
def OpenSpec.upto (s : _root_.Go.ChangeSpec) : _root_.Go.OpenSpec := { _root_.Go.OpenSpec.ofChange s with cond := some uptoSmall }

/-- 'lustrumlaw05.SetsWide', WHERE WHAT IT READS IS OF BULK AT MOST 1048576: true; the input reads as it did. -/
def setsWideUptoRow : OpenClaim := { program := "ytkbcmjejfbbcpaa", sum := "f38ec268ca01aba7a87174256960ab2a7663b42ee120af8075a6682b6f25a601", func := "lustrum/lustrumlaw05.SetsWide", spec := "setsWide", unfollowed := true, recurses := true, apart := false, narrowed := true }
def SetsWideUptoSaid : Prop := setsWideUptoRow.holds Try.pinned (OpenSpec.upto setsWideSpec)

/-- 'lustrumlaw04.RunsMake', WHERE WHAT IT READS IS OF BULK AT MOST 1048576: true; the input reads as it did. -/
def runsMakeUptoRow : OpenClaim := { program := "ytkbcmjejfbbcpaa", sum := "f38ec268ca01aba7a87174256960ab2a7663b42ee120af8075a6682b6f25a601", func := "lustrum/lustrumlaw04.RunsMake", spec := "runsMake", unfollowed := true, recurses := true, apart := false, narrowed := true }
def RunsMakeUptoSaid : Prop := runsMakeUptoRow.holds Try.pinned (OpenSpec.upto runsMakeSpec)

/-- 'lustrumlaw04.RunsOf', WHERE WHAT IT READS IS OF BULK AT MOST 1048576: true; the input reads as it did. -/
def runsOfUptoRow : OpenClaim := { program := "ytkbcmjejfbbcpaa", sum := "f38ec268ca01aba7a87174256960ab2a7663b42ee120af8075a6682b6f25a601", func := "lustrum/lustrumlaw04.RunsOf", spec := "runsOf", unfollowed := true, recurses := true, apart := false, narrowed := true }
def RunsOfUptoSaid : Prop := runsOfUptoRow.holds Try.pinned (OpenSpec.upto runsOfSpec)

/-- 'lustrumlaw04.RunsOnce', WHERE WHAT IT READS IS OF BULK AT MOST 1048576: true; the input reads as it did. -/
def runsOnceUptoRow : OpenClaim := { program := "ytkbcmjejfbbcpaa", sum := "f38ec268ca01aba7a87174256960ab2a7663b42ee120af8075a6682b6f25a601", func := "lustrum/lustrumlaw04.RunsOnce", spec := "runsOnce", unfollowed := true, recurses := true, apart := false, narrowed := true }
def RunsOnceUptoSaid : Prop := runsOnceUptoRow.holds Try.pinned (OpenSpec.upto runsOnceSpec)

/-- 'lustrumlaw04.RunsIs', WHERE WHAT IT READS IS OF BULK AT MOST 1048576: true; the input reads as it did. -/
def runsIsUptoRow : OpenClaim := { program := "ytkbcmjejfbbcpaa", sum := "f38ec268ca01aba7a87174256960ab2a7663b42ee120af8075a6682b6f25a601", func := "lustrum/lustrumlaw04.RunsIs", spec := "runsIs", unfollowed := true, recurses := true, apart := false, narrowed := true }
def RunsIsUptoSaid : Prop := runsIsUptoRow.holds Try.pinned (OpenSpec.upto runsIsSpec)

/-- 'lustrumlaw04.RunsNext', WHERE WHAT IT READS IS OF BULK AT MOST 1048576: true; the input reads as it did. -/
def runsNextUptoRow : OpenClaim := { program := "ytkbcmjejfbbcpaa", sum := "f38ec268ca01aba7a87174256960ab2a7663b42ee120af8075a6682b6f25a601", func := "lustrum/lustrumlaw04.RunsNext", spec := "runsNext", unfollowed := true, recurses := true, apart := false, narrowed := true }
def RunsNextUptoSaid : Prop := runsNextUptoRow.holds Try.pinned (OpenSpec.upto runsNextSpec)

/-- 'lustrumlaw05.SetsLaws', WHERE WHAT IT READS IS OF BULK AT MOST 1048576: true; the input reads as it did. -/
def setsLawsUptoRow : OpenClaim := { program := "ytkbcmjejfbbcpaa", sum := "f38ec268ca01aba7a87174256960ab2a7663b42ee120af8075a6682b6f25a601", func := "lustrum/lustrumlaw05.SetsLaws", spec := "setsLaws", unfollowed := true, recurses := true, apart := false, narrowed := true }
def SetsLawsUptoSaid : Prop := setsLawsUptoRow.holds Try.pinned (OpenSpec.upto setsLawsSpec)

/-- 'lustrumlaw05.SetsIs', WHERE WHAT IT READS IS OF BULK AT MOST 1048576: true; the input reads as it did. -/
def setsIsUptoRow : OpenClaim := { program := "ytkbcmjejfbbcpaa", sum := "f38ec268ca01aba7a87174256960ab2a7663b42ee120af8075a6682b6f25a601", func := "lustrum/lustrumlaw05.SetsIs", spec := "setsIs", unfollowed := true, recurses := true, apart := false, narrowed := true }
def SetsIsUptoSaid : Prop := setsIsUptoRow.holds Try.pinned (OpenSpec.upto setsIsSpec)

/-- 'lustrumlaw05.SetsGrow', WHERE WHAT IT READS IS OF BULK AT MOST 1048576: true; the input reads as it did. -/
def setsGrowUptoRow : OpenClaim := { program := "ytkbcmjejfbbcpaa", sum := "f38ec268ca01aba7a87174256960ab2a7663b42ee120af8075a6682b6f25a601", func := "lustrum/lustrumlaw05.SetsGrow", spec := "setsGrow", unfollowed := true, recurses := true, apart := false, narrowed := true }
def SetsGrowUptoSaid : Prop := setsGrowUptoRow.holds Try.pinned (OpenSpec.upto setsGrowSpec)

/-- 'lustrumlaw05.SetsClip', WHERE WHAT IT READS IS OF BULK AT MOST 1048576: true; the input reads as it did. -/
def setsClipUptoRow : OpenClaim := { program := "ytkbcmjejfbbcpaa", sum := "f38ec268ca01aba7a87174256960ab2a7663b42ee120af8075a6682b6f25a601", func := "lustrum/lustrumlaw05.SetsClip", spec := "setsClip", unfollowed := true, recurses := true, apart := false, narrowed := true }
def SetsClipUptoSaid : Prop := setsClipUptoRow.holds Try.pinned (OpenSpec.upto setsClipSpec)

/-- 'lustrumlaw05.SetsCounts', WHERE WHAT IT READS IS OF BULK AT MOST 1048576: true; the input reads as it did. -/
def setsCountsUptoRow : OpenClaim := { program := "ytkbcmjejfbbcpaa", sum := "f38ec268ca01aba7a87174256960ab2a7663b42ee120af8075a6682b6f25a601", func := "lustrum/lustrumlaw05.SetsCounts", spec := "setsCounts", unfollowed := true, recurses := true, apart := false, narrowed := true }
def SetsCountsUptoSaid : Prop := setsCountsUptoRow.holds Try.pinned (OpenSpec.upto setsCountsSpec)

/-- 'lustrumlaw05.SetsShift', WHERE WHAT IT READS IS OF BULK AT MOST 1048576: true; the input reads as it did. -/
def setsShiftUptoRow : OpenClaim := { program := "ytkbcmjejfbbcpaa", sum := "f38ec268ca01aba7a87174256960ab2a7663b42ee120af8075a6682b6f25a601", func := "lustrum/lustrumlaw05.SetsShift", spec := "setsShift", unfollowed := true, recurses := true, apart := false, narrowed := true }
def SetsShiftUptoSaid : Prop := setsShiftUptoRow.holds Try.pinned (OpenSpec.upto setsShiftSpec)

/-- 'lustrumlaw05.SetsHas', WHERE WHAT IT READS IS OF BULK AT MOST 1048576: true; the input reads as it did. -/
def setsHasUptoRow : OpenClaim := { program := "ytkbcmjejfbbcpaa", sum := "f38ec268ca01aba7a87174256960ab2a7663b42ee120af8075a6682b6f25a601", func := "lustrum/lustrumlaw05.SetsHas", spec := "setsHas", unfollowed := true, recurses := true, apart := false, narrowed := true }
def SetsHasUptoSaid : Prop := setsHasUptoRow.holds Try.pinned (OpenSpec.upto setsHasSpec)

end Rows
end Go.Proofs.Ytkbcmjejfbbcpaa
