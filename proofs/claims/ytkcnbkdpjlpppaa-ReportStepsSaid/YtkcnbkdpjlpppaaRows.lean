/-
  No cell of these rows narrows 'for every input' (looked for: loops, veiled, ifaces, maps, wideKeys, modest, calm, conditions, laid).
  DERIVED. THE GIVEN ROWS OF THIS SEAT. 3 by the template 'for every input the law returns true; each argument reads behind the call as it read before'; 0 by the template 'total and deterministic' (their statements: YtkcnbkdpjlpppaaTotals.lean).
  GIVEN WITH THE SEED: the statements are not yours to turn. If you find one false, say at which input.
  Laid BY PROGRAM, IN A SANDBOX (cutbox-rows.mjs): the forced cells as the released guide's own fill.sh prints them over the translation 6a3e39c433da86f9… (all of the seat's roots in one cut). By AI agents, Wed Nov 11 2026. No macro, syntax, notation, axiom, sorry.
-/
import Derived.Test.YtkcnbkdpjlpppaaChecked
import GoSem.Claim
import GoSem.ClaimJoined
import GoSem.ClaimMapViews
import Derived.JoinedTies
import Derived.KernelRfl
namespace Go.Proofs.Ytkcnbkdpjlpppaa
/- THE CELL 'sum', in the pinned program and in every row, IS THE sha256 OF THE DUMP (.gsa) THAT YtkcnbkdpjlpppaaProg.lean LOADS. Nothing in Lean hashes anything: it is a label: what it is worth is what the hold of that sum in a sandbox is worth. -/
noncomputable def Try.pinned : Pinned := { name := "ytkcnbkdpjlpppaa", sum := "6a3e39c433da86f93a246a3be3fd67b685b89d91db8598ce151d0cdd05d87ba8", checked := Try.checked }
namespace Rows
def none {H : Type} : Left H := { results := [], args := [] }

/-- 'staithelaw19.ReportNil': WHATEVER THE INPUT: true; the input reads as it did. -/
def reportNilSpec : ChangeSpec := { name := "reportNil", fn := fun _ => fun
  | [d1, d2, d3] => { results := [.lit (.bool true)], args := [d1, d2, d3] }
  | _ => none }
def reportNilRow : OpenClaim := { program := "ytkcnbkdpjlpppaa", sum := "6a3e39c433da86f93a246a3be3fd67b685b89d91db8598ce151d0cdd05d87ba8", func := "staithe/staithelaw19.ReportNil", spec := "reportNil", inPlace := ["slices.overlaps[staithe/epoch.Epoch]"], unfollowed := true, recurses := true, apart := false }
def ReportNilSaid : Prop := reportNilRow.holds Try.pinned (OpenSpec.ofChange reportNilSpec)

/-- ITS FALSE NEIGHBOUR: 'it returns false'. Refute it at one input. -/
def reportNilWrong : ChangeSpec := { name := "reportNil", fn := fun _ => fun
  | [d1, d2, d3] => { results := [.lit (.bool false)], args := [d1, d2, d3] }
  | _ => none }
def ReportNilWrongFalsely : Prop := reportNilRow.holds Try.pinned (OpenSpec.ofChange reportNilWrong)

/-- 'staithelaw19.ReportStays': WHATEVER THE INPUT: true; the input reads as it did. -/
def reportStaysSpec : ChangeSpec := { name := "reportStays", fn := fun _ => fun
  | [d1, d2] => { results := [.lit (.bool true)], args := [d1, d2] }
  | _ => none }
def reportStaysRow : OpenClaim := { program := "ytkcnbkdpjlpppaa", sum := "6a3e39c433da86f93a246a3be3fd67b685b89d91db8598ce151d0cdd05d87ba8", func := "staithe/staithelaw19.ReportStays", spec := "reportStays", inPlace := ["slices.overlaps[staithe/epoch.Epoch]"], unfollowed := true, recurses := true, apart := false }
def ReportStaysSaid : Prop := reportStaysRow.holds Try.pinned (OpenSpec.ofChange reportStaysSpec)

/-- ITS FALSE NEIGHBOUR: 'it returns false'. Refute it at one input. -/
def reportStaysWrong : ChangeSpec := { name := "reportStays", fn := fun _ => fun
  | [d1, d2] => { results := [.lit (.bool false)], args := [d1, d2] }
  | _ => none }
def ReportStaysWrongFalsely : Prop := reportStaysRow.holds Try.pinned (OpenSpec.ofChange reportStaysWrong)

/-- 'staithelaw19.ReportSteps': WHATEVER THE INPUT: true; the input reads as it did. -/
def reportStepsSpec : ChangeSpec := { name := "reportSteps", fn := fun _ => fun
  | [d1, d2] => { results := [.lit (.bool true)], args := [d1, d2] }
  | _ => none }
def reportStepsRow : OpenClaim := { program := "ytkcnbkdpjlpppaa", sum := "6a3e39c433da86f93a246a3be3fd67b685b89d91db8598ce151d0cdd05d87ba8", func := "staithe/staithelaw19.ReportSteps", spec := "reportSteps", inPlace := ["slices.overlaps[staithe/epoch.Epoch]"], unfollowed := true, recurses := true, apart := false }
def ReportStepsSaid : Prop := reportStepsRow.holds Try.pinned (OpenSpec.ofChange reportStepsSpec)

/-- ITS FALSE NEIGHBOUR: 'it returns false'. Refute it at one input. -/
def reportStepsWrong : ChangeSpec := { name := "reportSteps", fn := fun _ => fun
  | [d1, d2] => { results := [.lit (.bool false)], args := [d1, d2] }
  | _ => none }
def ReportStepsWrongFalsely : Prop := reportStepsRow.holds Try.pinned (OpenSpec.ofChange reportStepsWrong)

/- THE SECOND FORM. 'bulk': how many values and letters a reading holds, each counted each time it is reached (what is shared counts as often as it is met; a slice's spare places count too). A statement '..UptoSaid' is the law's where the arguments, and the package variables that the reading takes, are together of bulk at most 1048576: NARROWER than '..Said'. Prove '..Said' where nothing that the law and all that it calls make is longer than what came in: it says more and counts as full. Else prove '..UptoSaid'. A law counts once. -/
mutual
def uptoBulk {H : Type} : DataW H → Nat
  | .lit (.string bytes) => bytes.length + 1
  | .lit _ => 1
  | .nil => 1
  | .ptr d => uptoBulk d + 1
  | .slice elems spare => uptoBulkAll elems + uptoBulkAll spare + 1
  | .agg parts => uptoBulkAll parts + 1
  | .iface _ d => uptoBulk d + 1
  | .map entries => uptoBulkEntries entries + 1
  | .held _ => 1
def uptoBulkAll {H : Type} : List (DataW H) → Nat
  | [] => 0
  | d :: r => uptoBulk d + uptoBulkAll r
def uptoBulkEntries {H : Type} : List (Lit × DataW H) → Nat
  | [] => 0
  | x :: r => uptoBulkEntry x + uptoBulkEntries r
def uptoBulkEntry {H : Type} : Lit × DataW H → Nat
  | (.string bytes, d) => bytes.length + uptoBulk d + 1
  | (_, d) => uptoBulk d + 1
 end
def uptoSmall : (H : Type) → List (DataW H) → Bool := fun _ ds => decide (uptoBulkAll ds ≤ 1048576)
def OpenSpec.upto (s : _root_.Go.ChangeSpec) : _root_.Go.OpenSpec := { _root_.Go.OpenSpec.ofChange s with cond := some uptoSmall }

/-- 'staithelaw19.ReportNil', WHERE WHAT IT READS IS OF BULK AT MOST 1048576: true; the input reads as it did. -/
def reportNilUptoRow : OpenClaim := { program := "ytkcnbkdpjlpppaa", sum := "6a3e39c433da86f93a246a3be3fd67b685b89d91db8598ce151d0cdd05d87ba8", func := "staithe/staithelaw19.ReportNil", spec := "reportNil", inPlace := ["slices.overlaps[staithe/epoch.Epoch]"], unfollowed := true, recurses := true, apart := false, narrowed := true }
def ReportNilUptoSaid : Prop := reportNilUptoRow.holds Try.pinned (OpenSpec.upto reportNilSpec)

/-- 'staithelaw19.ReportStays', WHERE WHAT IT READS IS OF BULK AT MOST 1048576: true; the input reads as it did. -/
def reportStaysUptoRow : OpenClaim := { program := "ytkcnbkdpjlpppaa", sum := "6a3e39c433da86f93a246a3be3fd67b685b89d91db8598ce151d0cdd05d87ba8", func := "staithe/staithelaw19.ReportStays", spec := "reportStays", inPlace := ["slices.overlaps[staithe/epoch.Epoch]"], unfollowed := true, recurses := true, apart := false, narrowed := true }
def ReportStaysUptoSaid : Prop := reportStaysUptoRow.holds Try.pinned (OpenSpec.upto reportStaysSpec)

/-- 'staithelaw19.ReportSteps', WHERE WHAT IT READS IS OF BULK AT MOST 1048576: true; the input reads as it did. -/
def reportStepsUptoRow : OpenClaim := { program := "ytkcnbkdpjlpppaa", sum := "6a3e39c433da86f93a246a3be3fd67b685b89d91db8598ce151d0cdd05d87ba8", func := "staithe/staithelaw19.ReportSteps", spec := "reportSteps", inPlace := ["slices.overlaps[staithe/epoch.Epoch]"], unfollowed := true, recurses := true, apart := false, narrowed := true }
def ReportStepsUptoSaid : Prop := reportStepsUptoRow.holds Try.pinned (OpenSpec.upto reportStepsSpec)

end Rows
end Go.Proofs.Ytkcnbkdpjlpppaa
