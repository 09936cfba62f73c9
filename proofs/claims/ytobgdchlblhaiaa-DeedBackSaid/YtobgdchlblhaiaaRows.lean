/-
  No cell of these rows narrows 'for every input' (looked for: loops, veiled, ifaces, maps, wideKeys, modest, calm, conditions, laid).
  DERIVED. THE GIVEN ROWS OF THIS SEAT. 5 by the template 'for every input the law returns true; each argument reads behind the call as it read before'; 0 by the template 'total and deterministic' (their statements: YtobgdchlblhaiaaTotals.lean).
  GIVEN WITH THE SEED: the statements are not yours to turn. If you find one false, say at which input.
  Laid BY PROGRAM, IN A SANDBOX (cutbox-rows.mjs): the forced cells as the released guide's own fill.sh prints them over the translation 3c1aa4d4c8c9d84a… (all of the seat's roots in one cut). By AI agents, Wed Nov 11 2026. No macro, syntax, notation, axiom, sorry.
-/
import Derived.Test.YtobgdchlblhaiaaChecked
import GoSem.Claim
import GoSem.ClaimJoined
import GoSem.ClaimMapViews
import Derived.JoinedTies
import Derived.KernelRfl
namespace Go.Proofs.Ytobgdchlblhaiaa
/- THE CELL 'sum', in the pinned program and in every row, IS THE sha256 OF THE DUMP (.gsa) THAT YtobgdchlblhaiaaProg.lean LOADS. Nothing in Lean hashes anything: it is a label: what it is worth is what the hold of that sum in a sandbox is worth. -/
noncomputable def Try.pinned : Pinned := { name := "ytobgdchlblhaiaa", sum := "3c1aa4d4c8c9d84aab2dc7d0614b37b4605ae08a42384c1204016e431dcd2756", checked := Try.checked }
namespace Rows
def none {H : Type} : Left H := { results := [], args := [] }

/-- 'staithelaw04.DeedEncodes': WHATEVER THE INPUT: true; the input reads as it did. -/
def deedEncodesSpec : ChangeSpec := { name := "deedEncodes", fn := fun _ => fun
  | [d1, d2] => { results := [.lit (.bool true)], args := [d1, d2] }
  | _ => none }
def deedEncodesRow : OpenClaim := { program := "ytobgdchlblhaiaa", sum := "3c1aa4d4c8c9d84aab2dc7d0614b37b4605ae08a42384c1204016e431dcd2756", func := "staithe/staithelaw04.DeedEncodes", spec := "deedEncodes", inPlace := ["internal/abi.NoEscape"], apart := false }
def DeedEncodesSaid : Prop := deedEncodesRow.holds Try.pinned (OpenSpec.ofChange deedEncodesSpec)

/-- ITS FALSE NEIGHBOUR: 'it returns false'. Refute it at one input. -/
def deedEncodesWrong : ChangeSpec := { name := "deedEncodes", fn := fun _ => fun
  | [d1, d2] => { results := [.lit (.bool false)], args := [d1, d2] }
  | _ => none }
def DeedEncodesWrongFalsely : Prop := deedEncodesRow.holds Try.pinned (OpenSpec.ofChange deedEncodesWrong)

/-- 'staithelaw04.DeedDecodes': WHATEVER THE INPUT: true; the input reads as it did. -/
def deedDecodesSpec : ChangeSpec := { name := "deedDecodes", fn := fun _ => fun
  | [d1, d2] => { results := [.lit (.bool true)], args := [d1, d2] }
  | _ => none }
def deedDecodesRow : OpenClaim := { program := "ytobgdchlblhaiaa", sum := "3c1aa4d4c8c9d84aab2dc7d0614b37b4605ae08a42384c1204016e431dcd2756", func := "staithe/staithelaw04.DeedDecodes", spec := "deedDecodes", inPlace := ["internal/abi.NoEscape"], apart := false }
def DeedDecodesSaid : Prop := deedDecodesRow.holds Try.pinned (OpenSpec.ofChange deedDecodesSpec)

/-- ITS FALSE NEIGHBOUR: 'it returns false'. Refute it at one input. -/
def deedDecodesWrong : ChangeSpec := { name := "deedDecodes", fn := fun _ => fun
  | [d1, d2] => { results := [.lit (.bool false)], args := [d1, d2] }
  | _ => none }
def DeedDecodesWrongFalsely : Prop := deedDecodesRow.holds Try.pinned (OpenSpec.ofChange deedDecodesWrong)

/-- 'staithelaw04.DeedBack': WHATEVER THE INPUT: true; the input reads as it did. -/
def deedBackSpec : ChangeSpec := { name := "deedBack", fn := fun _ => fun
  | [d1, d2, d3] => { results := [.lit (.bool true)], args := [d1, d2, d3] }
  | _ => none }
def deedBackRow : OpenClaim := { program := "ytobgdchlblhaiaa", sum := "3c1aa4d4c8c9d84aab2dc7d0614b37b4605ae08a42384c1204016e431dcd2756", func := "staithe/staithelaw04.DeedBack", spec := "deedBack", inPlace := ["internal/abi.NoEscape"], apart := false }
def DeedBackSaid : Prop := deedBackRow.holds Try.pinned (OpenSpec.ofChange deedBackSpec)

/-- ITS FALSE NEIGHBOUR: 'it returns false'. Refute it at one input. -/
def deedBackWrong : ChangeSpec := { name := "deedBack", fn := fun _ => fun
  | [d1, d2, d3] => { results := [.lit (.bool false)], args := [d1, d2, d3] }
  | _ => none }
def DeedBackWrongFalsely : Prop := deedBackRow.holds Try.pinned (OpenSpec.ofChange deedBackWrong)

/-- 'staithelaw04.DeedApart': WHATEVER THE INPUT: true; the input reads as it did. -/
def deedApartSpec : ChangeSpec := { name := "deedApart", fn := fun _ => fun
  | [d1, d2, d3] => { results := [.lit (.bool true)], args := [d1, d2, d3] }
  | _ => none }
def deedApartRow : OpenClaim := { program := "ytobgdchlblhaiaa", sum := "3c1aa4d4c8c9d84aab2dc7d0614b37b4605ae08a42384c1204016e431dcd2756", func := "staithe/staithelaw04.DeedApart", spec := "deedApart", inPlace := ["internal/abi.NoEscape"], apart := false }
def DeedApartSaid : Prop := deedApartRow.holds Try.pinned (OpenSpec.ofChange deedApartSpec)

/-- ITS FALSE NEIGHBOUR: 'it returns false'. Refute it at one input. -/
def deedApartWrong : ChangeSpec := { name := "deedApart", fn := fun _ => fun
  | [d1, d2, d3] => { results := [.lit (.bool false)], args := [d1, d2, d3] }
  | _ => none }
def DeedApartWrongFalsely : Prop := deedApartRow.holds Try.pinned (OpenSpec.ofChange deedApartWrong)

/-- 'staithelaw04.DeedChecks': WHATEVER THE INPUT: true; the input reads as it did. -/
def deedChecksSpec : ChangeSpec := { name := "deedChecks", fn := fun _ => fun
  | [d1, d2] => { results := [.lit (.bool true)], args := [d1, d2] }
  | _ => none }
def deedChecksRow : OpenClaim := { program := "ytobgdchlblhaiaa", sum := "3c1aa4d4c8c9d84aab2dc7d0614b37b4605ae08a42384c1204016e431dcd2756", func := "staithe/staithelaw04.DeedChecks", spec := "deedChecks", inPlace := ["internal/abi.NoEscape"], apart := false }
def DeedChecksSaid : Prop := deedChecksRow.holds Try.pinned (OpenSpec.ofChange deedChecksSpec)

/-- ITS FALSE NEIGHBOUR: 'it returns false'. Refute it at one input. -/
def deedChecksWrong : ChangeSpec := { name := "deedChecks", fn := fun _ => fun
  | [d1, d2] => { results := [.lit (.bool false)], args := [d1, d2] }
  | _ => none }
def DeedChecksWrongFalsely : Prop := deedChecksRow.holds Try.pinned (OpenSpec.ofChange deedChecksWrong)

/- THE SECOND FORM. 'bulk': how many values and letters a reading holds, each counted each time it is reached (what is shared counts as often as it is met; a slice's spare places count too). A statement '..UptoSaid' is the law's where the arguments, and the package variables that the reading takes, are together of bulk at most 1048576: NARROWER than '..Said'. Prove '..Said' where nothing that the law and all that it calls make is longer than what came in: it says more and counts as full. Else prove '..UptoSaid'. A law counts once. -/
mutual
def uptoBulk {H : Type} : DataW H → Nat
  | .lit (.string bytes) => bytes.length + 1
  | .lit _ => 1
  | .nil => 1
  | .ptr d => uptoBulk d + 1
  | .slice elems spare => uptoBulkAll elems + uptoBulkAll spare + 1
  | .agg parts => uptoBulkAll parts + 1
  | .iface _ d => uptoBulk d + 1
  | .map entries => uptoBulkEntries entries + 1
  | .held _ => 1
def uptoBulkAll {H : Type} : List (DataW H) → Nat
  | [] => 0
  | d :: r => uptoBulk d + uptoBulkAll r
def uptoBulkEntries {H : Type} : List (Lit × DataW H) → Nat
  | [] => 0
  | x :: r => uptoBulkEntry x + uptoBulkEntries r
def uptoBulkEntry {H : Type} : Lit × DataW H → Nat
  | (.string bytes, d) => bytes.length + uptoBulk d + 1
  | (_, d) => uptoBulk d + 1
 end
def uptoSmall : (H : Type) → List (DataW H) → Bool := fun _ ds => decide (uptoBulkAll ds ≤ 1048576)
def OpenSpec.upto (s : _root_.Go.ChangeSpec) : _root_.Go.OpenSpec := { _root_.Go.OpenSpec.ofChange s with cond := some uptoSmall }

/-- 'staithelaw04.DeedEncodes', WHERE WHAT IT READS IS OF BULK AT MOST 1048576: true; the input reads as it did. -/
def deedEncodesUptoRow : OpenClaim := { program := "ytobgdchlblhaiaa", sum := "3c1aa4d4c8c9d84aab2dc7d0614b37b4605ae08a42384c1204016e431dcd2756", func := "staithe/staithelaw04.DeedEncodes", spec := "deedEncodes", inPlace := ["internal/abi.NoEscape"], apart := false, narrowed := true }
def DeedEncodesUptoSaid : Prop := deedEncodesUptoRow.holds Try.pinned (OpenSpec.upto deedEncodesSpec)

/-- 'staithelaw04.DeedDecodes', WHERE WHAT IT READS IS OF BULK AT MOST 1048576: true; the input reads as it did. -/
def deedDecodesUptoRow : OpenClaim := { program := "ytobgdchlblhaiaa", sum := "3c1aa4d4c8c9d84aab2dc7d0614b37b4605ae08a42384c1204016e431dcd2756", func := "staithe/staithelaw04.DeedDecodes", spec := "deedDecodes", inPlace := ["internal/abi.NoEscape"], apart := false, narrowed := true }
def DeedDecodesUptoSaid : Prop := deedDecodesUptoRow.holds Try.pinned (OpenSpec.upto deedDecodesSpec)

/-- 'staithelaw04.DeedBack', WHERE WHAT IT READS IS OF BULK AT MOST 1048576: true; the input reads as it did. -/
def deedBackUptoRow : OpenClaim := { program := "ytobgdchlblhaiaa", sum := "3c1aa4d4c8c9d84aab2dc7d0614b37b4605ae08a42384c1204016e431dcd2756", func := "staithe/staithelaw04.DeedBack", spec := "deedBack", inPlace := ["internal/abi.NoEscape"], apart := false, narrowed := true }
def DeedBackUptoSaid : Prop := deedBackUptoRow.holds Try.pinned (OpenSpec.upto deedBackSpec)

/-- 'staithelaw04.DeedApart', WHERE WHAT IT READS IS OF BULK AT MOST 1048576: true; the input reads as it did. -/
def deedApartUptoRow : OpenClaim := { program := "ytobgdchlblhaiaa", sum := "3c1aa4d4c8c9d84aab2dc7d0614b37b4605ae08a42384c1204016e431dcd2756", func := "staithe/staithelaw04.DeedApart", spec := "deedApart", inPlace := ["internal/abi.NoEscape"], apart := false, narrowed := true }
def DeedApartUptoSaid : Prop := deedApartUptoRow.holds Try.pinned (OpenSpec.upto deedApartSpec)

/-- 'staithelaw04.DeedChecks', WHERE WHAT IT READS IS OF BULK AT MOST 1048576: true; the input reads as it did. -/
def deedChecksUptoRow : OpenClaim := { program := "ytobgdchlblhaiaa", sum := "3c1aa4d4c8c9d84aab2dc7d0614b37b4605ae08a42384c1204016e431dcd2756", func := "staithe/staithelaw04.DeedChecks", spec := "deedChecks", inPlace := ["internal/abi.NoEscape"], apart := false, narrowed := true }
def DeedChecksUptoSaid : Prop := deedChecksUptoRow.holds Try.pinned (OpenSpec.upto deedChecksSpec)

end Rows
end Go.Proofs.Ytobgdchlblhaiaa
