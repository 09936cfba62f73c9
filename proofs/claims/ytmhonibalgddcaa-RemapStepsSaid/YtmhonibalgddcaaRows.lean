/-
  No cell of these rows narrows 'for every input' (looked for: loops, veiled, ifaces, maps, wideKeys, modest, calm, conditions, laid).
  DERIVED. THE GIVEN ROWS OF THIS SEAT. 4 by the template 'for every input the law returns true; each argument reads behind the call as it read before'; 0 by the template 'total and deterministic' (their statements: YtmhonibalgddcaaTotals.lean).
  GIVEN WITH THE SEED: the statements are not yours to turn. If you find one false, say at which input.
  Laid BY PROGRAM, IN A SANDBOX (cutbox-rows.mjs): the forced cells as the released guide's own fill.sh prints them over the translation d0014c26cf94f525… (all of the seat's roots in one cut). By AI agents, Wed Nov 11 2026. No macro, syntax, notation, axiom, sorry.
-/
import Derived.Test.YtmhonibalgddcaaChecked
import GoSem.Claim
import GoSem.ClaimJoined
import GoSem.ClaimMapViews
import Derived.JoinedTies
import Derived.KernelRfl
namespace Go.Proofs.Ytmhonibalgddcaa
/- THE CELL 'sum', in the pinned program and in every row, IS THE sha256 OF THE DUMP (.gsa) THAT YtmhonibalgddcaaProg.lean LOADS. Nothing in Lean hashes anything: it is a label: what it is worth is what the hold of that sum in a sandbox is worth. -/
noncomputable def Try.pinned : Pinned := { name := "ytmhonibalgddcaa", sum := "d0014c26cf94f52542d9c93be1f1e0404b840998a0b3329aa1246b5dfc0844a8", checked := Try.checked }
namespace Rows
def none {H : Type} : Left H := { results := [], args := [] }

/-- 'staithelaw21.RemapSteps': WHATEVER THE INPUT: true; the input reads as it did. -/
def remapStepsSpec : ChangeSpec := { name := "remapSteps", fn := fun _ => fun
  | [d1, d2, d3] => { results := [.lit (.bool true)], args := [d1, d2, d3] }
  | _ => none }
def remapStepsRow : OpenClaim := { program := "ytmhonibalgddcaa", sum := "d0014c26cf94f52542d9c93be1f1e0404b840998a0b3329aa1246b5dfc0844a8", func := "staithe/staithelaw21.RemapSteps", spec := "remapSteps", inPlace := ["slices.overlaps[staithe/remap.Record]"], unfollowed := true, recurses := true, apart := false }
def RemapStepsSaid : Prop := remapStepsRow.holds Try.pinned (OpenSpec.ofChange remapStepsSpec)

/-- ITS FALSE NEIGHBOUR: 'it returns false'. Refute it at one input. -/
def remapStepsWrong : ChangeSpec := { name := "remapSteps", fn := fun _ => fun
  | [d1, d2, d3] => { results := [.lit (.bool false)], args := [d1, d2, d3] }
  | _ => none }
def RemapStepsWrongFalsely : Prop := remapStepsRow.holds Try.pinned (OpenSpec.ofChange remapStepsWrong)

/-- 'staithelaw21.RemapOne': WHATEVER THE INPUT: true; the input reads as it did. -/
def remapOneSpec : ChangeSpec := { name := "remapOne", fn := fun _ => fun
  | [d1, d2, d3] => { results := [.lit (.bool true)], args := [d1, d2, d3] }
  | _ => none }
def remapOneRow : OpenClaim := { program := "ytmhonibalgddcaa", sum := "d0014c26cf94f52542d9c93be1f1e0404b840998a0b3329aa1246b5dfc0844a8", func := "staithe/staithelaw21.RemapOne", spec := "remapOne", inPlace := ["slices.overlaps[staithe/remap.Record]"], unfollowed := true, recurses := true, apart := false }
def RemapOneSaid : Prop := remapOneRow.holds Try.pinned (OpenSpec.ofChange remapOneSpec)

/-- ITS FALSE NEIGHBOUR: 'it returns false'. Refute it at one input. -/
def remapOneWrong : ChangeSpec := { name := "remapOne", fn := fun _ => fun
  | [d1, d2, d3] => { results := [.lit (.bool false)], args := [d1, d2, d3] }
  | _ => none }
def RemapOneWrongFalsely : Prop := remapOneRow.holds Try.pinned (OpenSpec.ofChange remapOneWrong)

/-- 'staithelaw21.RemapNil': WHATEVER THE INPUT: true; the input reads as it did. -/
def remapNilSpec : ChangeSpec := { name := "remapNil", fn := fun _ => fun
  | [d] => { results := [.lit (.bool true)], args := [d] }
  | _ => none }
def remapNilRow : OpenClaim := { program := "ytmhonibalgddcaa", sum := "d0014c26cf94f52542d9c93be1f1e0404b840998a0b3329aa1246b5dfc0844a8", func := "staithe/staithelaw21.RemapNil", spec := "remapNil", inPlace := ["slices.overlaps[staithe/remap.Record]"], unfollowed := true, recurses := true, apart := false }
def RemapNilSaid : Prop := remapNilRow.holds Try.pinned (OpenSpec.ofChange remapNilSpec)

/-- ITS FALSE NEIGHBOUR: 'it returns false'. Refute it at one input. -/
def remapNilWrong : ChangeSpec := { name := "remapNil", fn := fun _ => fun
  | [d] => { results := [.lit (.bool false)], args := [d] }
  | _ => none }
def RemapNilWrongFalsely : Prop := remapNilRow.holds Try.pinned (OpenSpec.ofChange remapNilWrong)

/-- 'staithelaw21.RemapStays': WHATEVER THE INPUT: true; the input reads as it did. -/
def remapStaysSpec : ChangeSpec := { name := "remapStays", fn := fun _ => fun
  | [d1, d2] => { results := [.lit (.bool true)], args := [d1, d2] }
  | _ => none }
def remapStaysRow : OpenClaim := { program := "ytmhonibalgddcaa", sum := "d0014c26cf94f52542d9c93be1f1e0404b840998a0b3329aa1246b5dfc0844a8", func := "staithe/staithelaw21.RemapStays", spec := "remapStays", inPlace := ["slices.overlaps[staithe/remap.Record]"], unfollowed := true, recurses := true, apart := false }
def RemapStaysSaid : Prop := remapStaysRow.holds Try.pinned (OpenSpec.ofChange remapStaysSpec)

/-- ITS FALSE NEIGHBOUR: 'it returns false'. Refute it at one input. -/
def remapStaysWrong : ChangeSpec := { name := "remapStays", fn := fun _ => fun
  | [d1, d2] => { results := [.lit (.bool false)], args := [d1, d2] }
  | _ => none }
def RemapStaysWrongFalsely : Prop := remapStaysRow.holds Try.pinned (OpenSpec.ofChange remapStaysWrong)

/- THE SECOND FORM. 'bulk': how many values and letters a reading holds, each counted each time it is reached (what is shared counts as often as it is met; a slice's spare places count too). A statement '..UptoSaid' is the law's where the arguments, and the package variables that the reading takes, are together of bulk at most 1048576: NARROWER than '..Said'. Prove '..Said' where nothing that the law and all that it calls make is longer than what came in: it says more and counts as full. Else prove '..UptoSaid'. A law counts once. -/
mutual
def uptoBulk {H : Type} : DataW H → Nat
  | .lit (.string bytes) => bytes.length + 1
  | .lit _ => 1
  | .nil => 1
  | .ptr d => uptoBulk d + 1
  | .slice elems spare => uptoBulkAll elems + uptoBulkAll spare + 1
  | .agg parts => uptoBulkAll parts + 1
  | .iface _ d => uptoBulk d + 1
  | .map entries => uptoBulkEntries entries + 1
  | .held _ => 1
def uptoBulkAll {H : Type} : List (DataW H) → Nat
  | [] => 0
  | d :: r => uptoBulk d + uptoBulkAll r
def uptoBulkEntries {H : Type} : List (Lit × DataW H) → Nat
  | [] => 0
  | x :: r => uptoBulkEntry x + uptoBulkEntries r
def uptoBulkEntry {H : Type} : Lit × DataW H → Nat
  | (.string bytes, d) => bytes.length + uptoBulk d + 1
  | (_, d) => uptoBulk d + 1
 end
def uptoSmall : (H : Type) → List (DataW H) → Bool := fun _ ds => decide (uptoBulkAll ds ≤ 1048576)
def OpenSpec.upto (s : _root_.Go.ChangeSpec) : _root_.Go.OpenSpec := { _root_.Go.OpenSpec.ofChange s with cond := some uptoSmall }

/-- 'staithelaw21.RemapSteps', WHERE WHAT IT READS IS OF BULK AT MOST 1048576: true; the input reads as it did. -/
def remapStepsUptoRow : OpenClaim := { program := "ytmhonibalgddcaa", sum := "d0014c26cf94f52542d9c93be1f1e0404b840998a0b3329aa1246b5dfc0844a8", func := "staithe/staithelaw21.RemapSteps", spec := "remapSteps", inPlace := ["slices.overlaps[staithe/remap.Record]"], unfollowed := true, recurses := true, apart := false, narrowed := true }
def RemapStepsUptoSaid : Prop := remapStepsUptoRow.holds Try.pinned (OpenSpec.upto remapStepsSpec)

/-- 'staithelaw21.RemapOne', WHERE WHAT IT READS IS OF BULK AT MOST 1048576: true; the input reads as it did. -/
def remapOneUptoRow : OpenClaim := { program := "ytmhonibalgddcaa", sum := "d0014c26cf94f52542d9c93be1f1e0404b840998a0b3329aa1246b5dfc0844a8", func := "staithe/staithelaw21.RemapOne", spec := "remapOne", inPlace := ["slices.overlaps[staithe/remap.Record]"], unfollowed := true, recurses := true, apart := false, narrowed := true }
def RemapOneUptoSaid : Prop := remapOneUptoRow.holds Try.pinned (OpenSpec.upto remapOneSpec)

/-- 'staithelaw21.RemapNil', WHERE WHAT IT READS IS OF BULK AT MOST 1048576: true; the input reads as it did. -/
def remapNilUptoRow : OpenClaim := { program := "ytmhonibalgddcaa", sum := "d0014c26cf94f52542d9c93be1f1e0404b840998a0b3329aa1246b5dfc0844a8", func := "staithe/staithelaw21.RemapNil", spec := "remapNil", inPlace := ["slices.overlaps[staithe/remap.Record]"], unfollowed := true, recurses := true, apart := false, narrowed := true }
def RemapNilUptoSaid : Prop := remapNilUptoRow.holds Try.pinned (OpenSpec.upto remapNilSpec)

/-- 'staithelaw21.RemapStays', WHERE WHAT IT READS IS OF BULK AT MOST 1048576: true; the input reads as it did. -/
def remapStaysUptoRow : OpenClaim := { program := "ytmhonibalgddcaa", sum := "d0014c26cf94f52542d9c93be1f1e0404b840998a0b3329aa1246b5dfc0844a8", func := "staithe/staithelaw21.RemapStays", spec := "remapStays", inPlace := ["slices.overlaps[staithe/remap.Record]"], unfollowed := true, recurses := true, apart := false, narrowed := true }
def RemapStaysUptoSaid : Prop := remapStaysUptoRow.holds Try.pinned (OpenSpec.upto remapStaysSpec)

end Rows
end Go.Proofs.Ytmhonibalgddcaa
