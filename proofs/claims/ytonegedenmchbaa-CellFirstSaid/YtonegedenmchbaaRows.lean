/-
  No cell of these rows narrows 'for every input' (looked for: loops, veiled, ifaces, maps, wideKeys, modest, calm, conditions, laid).
  DERIVED. THE GIVEN ROWS OF THIS SEAT. 5 by the template 'for every input the law returns true; each argument reads behind the call as it read before'; 0 by the template 'total and deterministic' (their statements: YtonegedenmchbaaTotals.lean).
  GIVEN WITH THE SEED: the statements are not yours to turn. If you find one false, say at which input.
  Laid BY PROGRAM, IN A SANDBOX (cutbox-rows.mjs): the forced cells as the released guide's own fill.sh prints them over the translation a7de7002912d7c0e… (all of the seat's roots in one cut). By AI agents, Wed Nov 11 2026. No macro, syntax, notation, axiom, sorry.
-/
import Derived.Test.YtonegedenmchbaaChecked
import GoSem.Claim
import GoSem.ClaimJoined
import GoSem.ClaimMapViews
import Derived.JoinedTies
import Derived.KernelRfl
namespace Go.Proofs.Ytonegedenmchbaa
/- THE CELL 'sum', in the pinned program and in every row, IS THE sha256 OF THE DUMP (.gsa) THAT YtonegedenmchbaaProg.lean LOADS. Nothing in Lean hashes anything: it is a label: what it is worth is what the hold of that sum in a sandbox is worth. -/
noncomputable def Try.pinned : Pinned := { name := "ytonegedenmchbaa", sum := "a7de7002912d7c0ece7cc6677a4f36695c054a1c817fee96e1b749ad92416e2c", checked := Try.checked }
namespace Rows
def none {H : Type} : Left H := { results := [], args := [] }

/-- 'staithelaw18.CellFirst': WHATEVER THE INPUT: true; the input reads as it did. -/
def cellFirstSpec : ChangeSpec := { name := "cellFirst", fn := fun _ => fun
  | [d] => { results := [.lit (.bool true)], args := [d] }
  | _ => none }
def cellFirstRow : OpenClaim := { program := "ytonegedenmchbaa", sum := "a7de7002912d7c0ece7cc6677a4f36695c054a1c817fee96e1b749ad92416e2c", func := "staithe/staithelaw18.CellFirst", spec := "cellFirst", inPlace := ["slices.overlaps[staithe/epoch.Epoch]"], unfollowed := true, recurses := true, apart := false }
def CellFirstSaid : Prop := cellFirstRow.holds Try.pinned (OpenSpec.ofChange cellFirstSpec)

/-- ITS FALSE NEIGHBOUR: 'it returns false'. Refute it at one input. -/
def cellFirstWrong : ChangeSpec := { name := "cellFirst", fn := fun _ => fun
  | [d] => { results := [.lit (.bool false)], args := [d] }
  | _ => none }
def CellFirstWrongFalsely : Prop := cellFirstRow.holds Try.pinned (OpenSpec.ofChange cellFirstWrong)

/-- 'staithelaw18.CellCut': WHATEVER THE INPUT: true; the input reads as it did. -/
def cellCutSpec : ChangeSpec := { name := "cellCut", fn := fun _ => fun
  | [d1, d2, d3] => { results := [.lit (.bool true)], args := [d1, d2, d3] }
  | _ => none }
def cellCutRow : OpenClaim := { program := "ytonegedenmchbaa", sum := "a7de7002912d7c0ece7cc6677a4f36695c054a1c817fee96e1b749ad92416e2c", func := "staithe/staithelaw18.CellCut", spec := "cellCut", inPlace := ["slices.overlaps[staithe/epoch.Epoch]"], unfollowed := true, recurses := true, apart := false }
def CellCutSaid : Prop := cellCutRow.holds Try.pinned (OpenSpec.ofChange cellCutSpec)

/-- ITS FALSE NEIGHBOUR: 'it returns false'. Refute it at one input. -/
def cellCutWrong : ChangeSpec := { name := "cellCut", fn := fun _ => fun
  | [d1, d2, d3] => { results := [.lit (.bool false)], args := [d1, d2, d3] }
  | _ => none }
def CellCutWrongFalsely : Prop := cellCutRow.holds Try.pinned (OpenSpec.ofChange cellCutWrong)

/-- 'staithelaw18.CellSteps': WHATEVER THE INPUT: true; the input reads as it did. -/
def cellStepsSpec : ChangeSpec := { name := "cellSteps", fn := fun _ => fun
  | [d] => { results := [.lit (.bool true)], args := [d] }
  | _ => none }
def cellStepsRow : OpenClaim := { program := "ytonegedenmchbaa", sum := "a7de7002912d7c0ece7cc6677a4f36695c054a1c817fee96e1b749ad92416e2c", func := "staithe/staithelaw18.CellSteps", spec := "cellSteps", inPlace := ["slices.overlaps[staithe/epoch.Epoch]"], unfollowed := true, recurses := true, apart := false }
def CellStepsSaid : Prop := cellStepsRow.holds Try.pinned (OpenSpec.ofChange cellStepsSpec)

/-- ITS FALSE NEIGHBOUR: 'it returns false'. Refute it at one input. -/
def cellStepsWrong : ChangeSpec := { name := "cellSteps", fn := fun _ => fun
  | [d] => { results := [.lit (.bool false)], args := [d] }
  | _ => none }
def CellStepsWrongFalsely : Prop := cellStepsRow.holds Try.pinned (OpenSpec.ofChange cellStepsWrong)

/-- 'staithelaw18.CellNil': WHATEVER THE INPUT: true; the input reads as it did. -/
def cellNilSpec : ChangeSpec := { name := "cellNil", fn := fun _ => fun
  | [d1, d2, d3] => { results := [.lit (.bool true)], args := [d1, d2, d3] }
  | _ => none }
def cellNilRow : OpenClaim := { program := "ytonegedenmchbaa", sum := "a7de7002912d7c0ece7cc6677a4f36695c054a1c817fee96e1b749ad92416e2c", func := "staithe/staithelaw18.CellNil", spec := "cellNil", inPlace := ["slices.overlaps[staithe/epoch.Epoch]"], unfollowed := true, recurses := true, apart := false }
def CellNilSaid : Prop := cellNilRow.holds Try.pinned (OpenSpec.ofChange cellNilSpec)

/-- ITS FALSE NEIGHBOUR: 'it returns false'. Refute it at one input. -/
def cellNilWrong : ChangeSpec := { name := "cellNil", fn := fun _ => fun
  | [d1, d2, d3] => { results := [.lit (.bool false)], args := [d1, d2, d3] }
  | _ => none }
def CellNilWrongFalsely : Prop := cellNilRow.holds Try.pinned (OpenSpec.ofChange cellNilWrong)

/-- 'staithelaw18.CellAgain': WHATEVER THE INPUT: true; the input reads as it did. -/
def cellAgainSpec : ChangeSpec := { name := "cellAgain", fn := fun _ => fun
  | [d1, d2, d3] => { results := [.lit (.bool true)], args := [d1, d2, d3] }
  | _ => none }
def cellAgainRow : OpenClaim := { program := "ytonegedenmchbaa", sum := "a7de7002912d7c0ece7cc6677a4f36695c054a1c817fee96e1b749ad92416e2c", func := "staithe/staithelaw18.CellAgain", spec := "cellAgain", inPlace := ["slices.overlaps[staithe/epoch.Epoch]"], unfollowed := true, recurses := true, apart := false }
def CellAgainSaid : Prop := cellAgainRow.holds Try.pinned (OpenSpec.ofChange cellAgainSpec)

/-- ITS FALSE NEIGHBOUR: 'it returns false'. Refute it at one input. -/
def cellAgainWrong : ChangeSpec := { name := "cellAgain", fn := fun _ => fun
  | [d1, d2, d3] => { results := [.lit (.bool false)], args := [d1, d2, d3] }
  | _ => none }
def CellAgainWrongFalsely : Prop := cellAgainRow.holds Try.pinned (OpenSpec.ofChange cellAgainWrong)

/- THE SECOND FORM. 'bulk': how many values and letters a reading holds, each counted each time it is reached (what is shared counts as often as it is met; a slice's spare places count too). A statement '..UptoSaid' is the law's where the arguments, and the package variables that the reading takes, are together of bulk at most 1048576: NARROWER than '..Said'. Prove '..Said' where nothing that the law and all that it calls make is longer than what came in: it says more and counts as full. Else prove '..UptoSaid'. A law counts once. -/
mutual
def uptoBulk {H : Type} : DataW H → Nat
  | .lit (.string bytes) => bytes.length + 1
  | .lit _ => 1
  | .nil => 1
  | .ptr d => uptoBulk d + 1
  | .slice elems spare => uptoBulkAll elems + uptoBulkAll spare + 1
  | .agg parts => uptoBulkAll parts + 1
  | .iface _ d => uptoBulk d + 1
  | .map entries => uptoBulkEntries entries + 1
  | .held _ => 1
def uptoBulkAll {H : Type} : List (DataW H) → Nat
  | [] => 0
  | d :: r => uptoBulk d + uptoBulkAll r
def uptoBulkEntries {H : Type} : List (Lit × DataW H) → Nat
  | [] => 0
  | x :: r => uptoBulkEntry x + uptoBulkEntries r
def uptoBulkEntry {H : Type} : Lit × DataW H → Nat
  | (.string bytes, d) => bytes.length + uptoBulk d + 1
  | (_, d) => uptoBulk d + 1
 end
def uptoSmall : (H : Type) → List (DataW H) → Bool := fun _ ds => decide (uptoBulkAll ds ≤ 1048576)
def OpenSpec.upto (s : _root_.Go.ChangeSpec) : _root_.Go.OpenSpec := { _root_.Go.OpenSpec.ofChange s with cond := some uptoSmall }

/-- 'staithelaw18.CellFirst', WHERE WHAT IT READS IS OF BULK AT MOST 1048576: true; the input reads as it did. -/
def cellFirstUptoRow : OpenClaim := { program := "ytonegedenmchbaa", sum := "a7de7002912d7c0ece7cc6677a4f36695c054a1c817fee96e1b749ad92416e2c", func := "staithe/staithelaw18.CellFirst", spec := "cellFirst", inPlace := ["slices.overlaps[staithe/epoch.Epoch]"], unfollowed := true, recurses := true, apart := false, narrowed := true }
def CellFirstUptoSaid : Prop := cellFirstUptoRow.holds Try.pinned (OpenSpec.upto cellFirstSpec)

/-- 'staithelaw18.CellCut', WHERE WHAT IT READS IS OF BULK AT MOST 1048576: true; the input reads as it did. -/
def cellCutUptoRow : OpenClaim := { program := "ytonegedenmchbaa", sum := "a7de7002912d7c0ece7cc6677a4f36695c054a1c817fee96e1b749ad92416e2c", func := "staithe/staithelaw18.CellCut", spec := "cellCut", inPlace := ["slices.overlaps[staithe/epoch.Epoch]"], unfollowed := true, recurses := true, apart := false, narrowed := true }
def CellCutUptoSaid : Prop := cellCutUptoRow.holds Try.pinned (OpenSpec.upto cellCutSpec)

/-- 'staithelaw18.CellSteps', WHERE WHAT IT READS IS OF BULK AT MOST 1048576: true; the input reads as it did. -/
def cellStepsUptoRow : OpenClaim := { program := "ytonegedenmchbaa", sum := "a7de7002912d7c0ece7cc6677a4f36695c054a1c817fee96e1b749ad92416e2c", func := "staithe/staithelaw18.CellSteps", spec := "cellSteps", inPlace := ["slices.overlaps[staithe/epoch.Epoch]"], unfollowed := true, recurses := true, apart := false, narrowed := true }
def CellStepsUptoSaid : Prop := cellStepsUptoRow.holds Try.pinned (OpenSpec.upto cellStepsSpec)

/-- 'staithelaw18.CellNil', WHERE WHAT IT READS IS OF BULK AT MOST 1048576: true; the input reads as it did. -/
def cellNilUptoRow : OpenClaim := { program := "ytonegedenmchbaa", sum := "a7de7002912d7c0ece7cc6677a4f36695c054a1c817fee96e1b749ad92416e2c", func := "staithe/staithelaw18.CellNil", spec := "cellNil", inPlace := ["slices.overlaps[staithe/epoch.Epoch]"], unfollowed := true, recurses := true, apart := false, narrowed := true }
def CellNilUptoSaid : Prop := cellNilUptoRow.holds Try.pinned (OpenSpec.upto cellNilSpec)

/-- 'staithelaw18.CellAgain', WHERE WHAT IT READS IS OF BULK AT MOST 1048576: true; the input reads as it did. -/
def cellAgainUptoRow : OpenClaim := { program := "ytonegedenmchbaa", sum := "a7de7002912d7c0ece7cc6677a4f36695c054a1c817fee96e1b749ad92416e2c", func := "staithe/staithelaw18.CellAgain", spec := "cellAgain", inPlace := ["slices.overlaps[staithe/epoch.Epoch]"], unfollowed := true, recurses := true, apart := false, narrowed := true }
def CellAgainUptoSaid : Prop := cellAgainUptoRow.holds Try.pinned (OpenSpec.upto cellAgainSpec)

end Rows
end Go.Proofs.Ytonegedenmchbaa
