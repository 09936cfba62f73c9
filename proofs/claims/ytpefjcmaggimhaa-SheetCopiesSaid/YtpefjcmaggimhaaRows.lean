/-
  No cell of these rows narrows 'for every input' (looked for: loops, veiled, ifaces, maps, wideKeys, modest, calm, conditions, laid).
  DERIVED. THE GIVEN ROWS OF THIS SEAT. 5 by the template 'for every input the law returns true; each argument reads behind the call as it read before'; 0 by the template 'total and deterministic' (their statements: YtpefjcmaggimhaaTotals.lean).
  GIVEN WITH THE SEED: the statements are not yours to turn. If you find one false, say at which input.
  Laid BY PROGRAM, IN A SANDBOX (cutbox-rows.mjs): the forced cells as the released guide's own fill.sh prints them over the translation 5498a498af3f3f25… (all of the seat's roots in one cut). By AI agents, Wed Nov 11 2026. No macro, syntax, notation, axiom, sorry.
-/
import Derived.Test.YtpefjcmaggimhaaChecked
import GoSem.Claim
import GoSem.ClaimJoined
import GoSem.ClaimMapViews
import Derived.JoinedTies
import Derived.KernelRfl
namespace Go.Proofs.Ytpefjcmaggimhaa
/- THE CELL 'sum', in the pinned program and in every row, IS THE sha256 OF THE DUMP (.gsa) THAT YtpefjcmaggimhaaProg.lean LOADS. Nothing in Lean hashes anything: it is a label: what it is worth is what the hold of that sum in a sandbox is worth. -/
noncomputable def Try.pinned : Pinned := { name := "ytpefjcmaggimhaa", sum := "5498a498af3f3f25f5f82d94a4552ad0526f7331ff973117ec7b8493907caf0f", checked := Try.checked }
namespace Rows
def none {H : Type} : Left H := { results := [], args := [] }

/-- 'staithelaw05.SheetChecks': WHATEVER THE INPUT: true; the input reads as it did. -/
def sheetChecksSpec : ChangeSpec := { name := "sheetChecks", fn := fun _ => fun
  | [d] => { results := [.lit (.bool true)], args := [d] }
  | _ => none }
def sheetChecksRow : OpenClaim := { program := "ytpefjcmaggimhaa", sum := "5498a498af3f3f25f5f82d94a4552ad0526f7331ff973117ec7b8493907caf0f", func := "staithe/staithelaw05.SheetChecks", spec := "sheetChecks", inPlace := ["internal/abi.NoEscape"], unfollowed := true, recurses := true, apart := false }
def SheetChecksSaid : Prop := sheetChecksRow.holds Try.pinned (OpenSpec.ofChange sheetChecksSpec)

/-- ITS FALSE NEIGHBOUR: 'it returns false'. Refute it at one input. -/
def sheetChecksWrong : ChangeSpec := { name := "sheetChecks", fn := fun _ => fun
  | [d] => { results := [.lit (.bool false)], args := [d] }
  | _ => none }
def SheetChecksWrongFalsely : Prop := sheetChecksRow.holds Try.pinned (OpenSpec.ofChange sheetChecksWrong)

/-- 'staithelaw05.SheetDecodes': WHATEVER THE INPUT: true; the input reads as it did. -/
def sheetDecodesSpec : ChangeSpec := { name := "sheetDecodes", fn := fun _ => fun
  | [d] => { results := [.lit (.bool true)], args := [d] }
  | _ => none }
def sheetDecodesRow : OpenClaim := { program := "ytpefjcmaggimhaa", sum := "5498a498af3f3f25f5f82d94a4552ad0526f7331ff973117ec7b8493907caf0f", func := "staithe/staithelaw05.SheetDecodes", spec := "sheetDecodes", inPlace := ["internal/abi.NoEscape"], unfollowed := true, recurses := true, apart := false }
def SheetDecodesSaid : Prop := sheetDecodesRow.holds Try.pinned (OpenSpec.ofChange sheetDecodesSpec)

/-- ITS FALSE NEIGHBOUR: 'it returns false'. Refute it at one input. -/
def sheetDecodesWrong : ChangeSpec := { name := "sheetDecodes", fn := fun _ => fun
  | [d] => { results := [.lit (.bool false)], args := [d] }
  | _ => none }
def SheetDecodesWrongFalsely : Prop := sheetDecodesRow.holds Try.pinned (OpenSpec.ofChange sheetDecodesWrong)

/-- 'staithelaw05.SheetBack': WHATEVER THE INPUT: true; the input reads as it did. -/
def sheetBackSpec : ChangeSpec := { name := "sheetBack", fn := fun _ => fun
  | [d1, d2] => { results := [.lit (.bool true)], args := [d1, d2] }
  | _ => none }
def sheetBackRow : OpenClaim := { program := "ytpefjcmaggimhaa", sum := "5498a498af3f3f25f5f82d94a4552ad0526f7331ff973117ec7b8493907caf0f", func := "staithe/staithelaw05.SheetBack", spec := "sheetBack", inPlace := ["internal/abi.NoEscape"], unfollowed := true, recurses := true, apart := false }
def SheetBackSaid : Prop := sheetBackRow.holds Try.pinned (OpenSpec.ofChange sheetBackSpec)

/-- ITS FALSE NEIGHBOUR: 'it returns false'. Refute it at one input. -/
def sheetBackWrong : ChangeSpec := { name := "sheetBack", fn := fun _ => fun
  | [d1, d2] => { results := [.lit (.bool false)], args := [d1, d2] }
  | _ => none }
def SheetBackWrongFalsely : Prop := sheetBackRow.holds Try.pinned (OpenSpec.ofChange sheetBackWrong)

/-- 'staithelaw05.SheetCopies': WHATEVER THE INPUT: true; the input reads as it did. -/
def sheetCopiesSpec : ChangeSpec := { name := "sheetCopies", fn := fun _ => fun
  | [d] => { results := [.lit (.bool true)], args := [d] }
  | _ => none }
def sheetCopiesRow : OpenClaim := { program := "ytpefjcmaggimhaa", sum := "5498a498af3f3f25f5f82d94a4552ad0526f7331ff973117ec7b8493907caf0f", func := "staithe/staithelaw05.SheetCopies", spec := "sheetCopies", inPlace := ["internal/abi.NoEscape"], unfollowed := true, recurses := true, apart := false }
def SheetCopiesSaid : Prop := sheetCopiesRow.holds Try.pinned (OpenSpec.ofChange sheetCopiesSpec)

/-- ITS FALSE NEIGHBOUR: 'it returns false'. Refute it at one input. -/
def sheetCopiesWrong : ChangeSpec := { name := "sheetCopies", fn := fun _ => fun
  | [d] => { results := [.lit (.bool false)], args := [d] }
  | _ => none }
def SheetCopiesWrongFalsely : Prop := sheetCopiesRow.holds Try.pinned (OpenSpec.ofChange sheetCopiesWrong)

/-- 'staithelaw05.SheetBares': WHATEVER THE INPUT: true; the input reads as it did. -/
def sheetBaresSpec : ChangeSpec := { name := "sheetBares", fn := fun _ => fun
  | [d] => { results := [.lit (.bool true)], args := [d] }
  | _ => none }
def sheetBaresRow : OpenClaim := { program := "ytpefjcmaggimhaa", sum := "5498a498af3f3f25f5f82d94a4552ad0526f7331ff973117ec7b8493907caf0f", func := "staithe/staithelaw05.SheetBares", spec := "sheetBares", inPlace := ["internal/abi.NoEscape"], unfollowed := true, recurses := true, apart := false }
def SheetBaresSaid : Prop := sheetBaresRow.holds Try.pinned (OpenSpec.ofChange sheetBaresSpec)

/-- ITS FALSE NEIGHBOUR: 'it returns false'. Refute it at one input. -/
def sheetBaresWrong : ChangeSpec := { name := "sheetBares", fn := fun _ => fun
  | [d] => { results := [.lit (.bool false)], args := [d] }
  | _ => none }
def SheetBaresWrongFalsely : Prop := sheetBaresRow.holds Try.pinned (OpenSpec.ofChange sheetBaresWrong)

/- THE SECOND FORM. 'bulk': how many values and letters a reading holds, each counted each time it is reached (what is shared counts as often as it is met; a slice's spare places count too). A statement '..UptoSaid' is the law's where the arguments, and the package variables that the reading takes, are together of bulk at most 1048576: NARROWER than '..Said'. Prove '..Said' where nothing that the law and all that it calls make is longer than what came in: it says more and counts as full. Else prove '..UptoSaid'. A law counts once. -/
mutual
def uptoBulk {H : Type} : DataW H → Nat
  | .lit (.string bytes) => bytes.length + 1
  | .lit _ => 1
  | .nil => 1
  | .ptr d => uptoBulk d + 1
  | .slice elems spare => uptoBulkAll elems + uptoBulkAll spare + 1
  | .agg parts => uptoBulkAll parts + 1
  | .iface _ d => uptoBulk d + 1
  | .map entries => uptoBulkEntries entries + 1
  | .held _ => 1
def uptoBulkAll {H : Type} : List (DataW H) → Nat
  | [] => 0
  | d :: r => uptoBulk d + uptoBulkAll r
def uptoBulkEntries {H : Type} : List (Lit × DataW H) → Nat
  | [] => 0
  | x :: r => uptoBulkEntry x + uptoBulkEntries r
def uptoBulkEntry {H : Type} : Lit × DataW H → Nat
  | (.string bytes, d) => bytes.length + uptoBulk d + 1
  | (_, d) => uptoBulk d + 1
 end
def uptoSmall : (H : Type) → List (DataW H) → Bool := fun _ ds => decide (uptoBulkAll ds ≤ 1048576)
def OpenSpec.upto (s : _root_.Go.ChangeSpec) : _root_.Go.OpenSpec := { _root_.Go.OpenSpec.ofChange s with cond := some uptoSmall }

/-- 'staithelaw05.SheetChecks', WHERE WHAT IT READS IS OF BULK AT MOST 1048576: true; the input reads as it did. -/
def sheetChecksUptoRow : OpenClaim := { program := "ytpefjcmaggimhaa", sum := "5498a498af3f3f25f5f82d94a4552ad0526f7331ff973117ec7b8493907caf0f", func := "staithe/staithelaw05.SheetChecks", spec := "sheetChecks", inPlace := ["internal/abi.NoEscape"], unfollowed := true, recurses := true, apart := false, narrowed := true }
def SheetChecksUptoSaid : Prop := sheetChecksUptoRow.holds Try.pinned (OpenSpec.upto sheetChecksSpec)

/-- 'staithelaw05.SheetDecodes', WHERE WHAT IT READS IS OF BULK AT MOST 1048576: true; the input reads as it did. -/
def sheetDecodesUptoRow : OpenClaim := { program := "ytpefjcmaggimhaa", sum := "5498a498af3f3f25f5f82d94a4552ad0526f7331ff973117ec7b8493907caf0f", func := "staithe/staithelaw05.SheetDecodes", spec := "sheetDecodes", inPlace := ["internal/abi.NoEscape"], unfollowed := true, recurses := true, apart := false, narrowed := true }
def SheetDecodesUptoSaid : Prop := sheetDecodesUptoRow.holds Try.pinned (OpenSpec.upto sheetDecodesSpec)

/-- 'staithelaw05.SheetBack', WHERE WHAT IT READS IS OF BULK AT MOST 1048576: true; the input reads as it did. -/
def sheetBackUptoRow : OpenClaim := { program := "ytpefjcmaggimhaa", sum := "5498a498af3f3f25f5f82d94a4552ad0526f7331ff973117ec7b8493907caf0f", func := "staithe/staithelaw05.SheetBack", spec := "sheetBack", inPlace := ["internal/abi.NoEscape"], unfollowed := true, recurses := true, apart := false, narrowed := true }
def SheetBackUptoSaid : Prop := sheetBackUptoRow.holds Try.pinned (OpenSpec.upto sheetBackSpec)

/-- 'staithelaw05.SheetCopies', WHERE WHAT IT READS IS OF BULK AT MOST 1048576: true; the input reads as it did. -/
def sheetCopiesUptoRow : OpenClaim := { program := "ytpefjcmaggimhaa", sum := "5498a498af3f3f25f5f82d94a4552ad0526f7331ff973117ec7b8493907caf0f", func := "staithe/staithelaw05.SheetCopies", spec := "sheetCopies", inPlace := ["internal/abi.NoEscape"], unfollowed := true, recurses := true, apart := false, narrowed := true }
def SheetCopiesUptoSaid : Prop := sheetCopiesUptoRow.holds Try.pinned (OpenSpec.upto sheetCopiesSpec)

/-- 'staithelaw05.SheetBares', WHERE WHAT IT READS IS OF BULK AT MOST 1048576: true; the input reads as it did. -/
def sheetBaresUptoRow : OpenClaim := { program := "ytpefjcmaggimhaa", sum := "5498a498af3f3f25f5f82d94a4552ad0526f7331ff973117ec7b8493907caf0f", func := "staithe/staithelaw05.SheetBares", spec := "sheetBares", inPlace := ["internal/abi.NoEscape"], unfollowed := true, recurses := true, apart := false, narrowed := true }
def SheetBaresUptoSaid : Prop := sheetBaresUptoRow.holds Try.pinned (OpenSpec.upto sheetBaresSpec)

end Rows
end Go.Proofs.Ytpefjcmaggimhaa
