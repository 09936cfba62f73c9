/-
  No cell of these rows narrows 'for every input' (looked for: loops, veiled, ifaces, maps, wideKeys, modest, calm, conditions, laid).
  DERIVED. THE GIVEN ROWS OF THIS SEAT. 3 by the template 'for every input the law returns true; each argument reads behind the call as it read before'; 0 by the template 'total and deterministic' (their statements: YtpmkfhfojmlalaaTotals.lean).
  GIVEN WITH THE SEED: the statements are not yours to turn. If you find one false, say at which input.
  Laid BY PROGRAM, IN A SANDBOX (cutbox-rows.mjs): the forced cells as the released guide's own fill.sh prints them over the translation 3d65bcdd3ac85838… (all of the seat's roots in one cut). By AI agents, Wed Nov 11 2026. No macro, syntax, notation, axiom, sorry.
-/
import Derived.Test.YtpmkfhfojmlalaaChecked
import GoSem.Claim
import GoSem.ClaimJoined
import GoSem.ClaimMapViews
import Derived.JoinedTies
import Derived.KernelRfl
namespace Go.Proofs.Ytpmkfhfojmlalaa
/- THE CELL 'sum', in the pinned program and in every row, IS THE sha256 OF THE DUMP (.gsa) THAT YtpmkfhfojmlalaaProg.lean LOADS. Nothing in Lean hashes anything: it is a label: what it is worth is what the hold of that sum in a sandbox is worth. -/
noncomputable def Try.pinned : Pinned := { name := "ytpmkfhfojmlalaa", sum := "3d65bcdd3ac85838435c7d0f4d70296bb2c0d903d4facff3c0f61c3011ae14fe", checked := Try.checked }
namespace Rows
def none {H : Type} : Left H := { results := [], args := [] }

/-- 'staithelaw22.QueryBefore': WHATEVER THE INPUT: true; the input reads as it did. -/
def queryBeforeSpec : ChangeSpec := { name := "queryBefore", fn := fun _ => fun
  | [d1, d2, d3] => { results := [.lit (.bool true)], args := [d1, d2, d3] }
  | _ => none }
def queryBeforeRow : OpenClaim := { program := "ytpmkfhfojmlalaa", sum := "3d65bcdd3ac85838435c7d0f4d70296bb2c0d903d4facff3c0f61c3011ae14fe", func := "staithe/staithelaw22.QueryBefore", spec := "queryBefore", unfollowed := true, recurses := true, apart := false }
def QueryBeforeSaid : Prop := queryBeforeRow.holds Try.pinned (OpenSpec.ofChange queryBeforeSpec)

/-- ITS FALSE NEIGHBOUR: 'it returns false'. Refute it at one input. -/
def queryBeforeWrong : ChangeSpec := { name := "queryBefore", fn := fun _ => fun
  | [d1, d2, d3] => { results := [.lit (.bool false)], args := [d1, d2, d3] }
  | _ => none }
def QueryBeforeWrongFalsely : Prop := queryBeforeRow.holds Try.pinned (OpenSpec.ofChange queryBeforeWrong)

/-- 'staithelaw22.QueryKnown': WHATEVER THE INPUT: true; the input reads as it did. -/
def queryKnownSpec : ChangeSpec := { name := "queryKnown", fn := fun _ => fun
  | [d1, d2, d3] => { results := [.lit (.bool true)], args := [d1, d2, d3] }
  | _ => none }
def queryKnownRow : OpenClaim := { program := "ytpmkfhfojmlalaa", sum := "3d65bcdd3ac85838435c7d0f4d70296bb2c0d903d4facff3c0f61c3011ae14fe", func := "staithe/staithelaw22.QueryKnown", spec := "queryKnown", unfollowed := true, recurses := true, apart := false }
def QueryKnownSaid : Prop := queryKnownRow.holds Try.pinned (OpenSpec.ofChange queryKnownSpec)

/-- ITS FALSE NEIGHBOUR: 'it returns false'. Refute it at one input. -/
def queryKnownWrong : ChangeSpec := { name := "queryKnown", fn := fun _ => fun
  | [d1, d2, d3] => { results := [.lit (.bool false)], args := [d1, d2, d3] }
  | _ => none }
def QueryKnownWrongFalsely : Prop := queryKnownRow.holds Try.pinned (OpenSpec.ofChange queryKnownWrong)

/-- 'staithelaw22.QueryEarlier': WHATEVER THE INPUT: true; the input reads as it did. -/
def queryEarlierSpec : ChangeSpec := { name := "queryEarlier", fn := fun _ => fun
  | [d1, d2] => { results := [.lit (.bool true)], args := [d1, d2] }
  | _ => none }
def queryEarlierRow : OpenClaim := { program := "ytpmkfhfojmlalaa", sum := "3d65bcdd3ac85838435c7d0f4d70296bb2c0d903d4facff3c0f61c3011ae14fe", func := "staithe/staithelaw22.QueryEarlier", spec := "queryEarlier", unfollowed := true, recurses := true, apart := false }
def QueryEarlierSaid : Prop := queryEarlierRow.holds Try.pinned (OpenSpec.ofChange queryEarlierSpec)

/-- ITS FALSE NEIGHBOUR: 'it returns false'. Refute it at one input. -/
def queryEarlierWrong : ChangeSpec := { name := "queryEarlier", fn := fun _ => fun
  | [d1, d2] => { results := [.lit (.bool false)], args := [d1, d2] }
  | _ => none }
def QueryEarlierWrongFalsely : Prop := queryEarlierRow.holds Try.pinned (OpenSpec.ofChange queryEarlierWrong)

/- THE SECOND FORM. 'bulk': how many values and letters a reading holds, each counted each time it is reached (what is shared counts as often as it is met; a slice's spare places count too). A statement '..UptoSaid' is the law's where the arguments, and the package variables that the reading takes, are together of bulk at most 1048576: NARROWER than '..Said'. Prove '..Said' where nothing that the law and all that it calls make is longer than what came in: it says more and counts as full. Else prove '..UptoSaid'. A law counts once. -/
mutual
def uptoBulk {H : Type} : DataW H → Nat
  | .lit (.string bytes) => bytes.length + 1
  | .lit _ => 1
  | .nil => 1
  | .ptr d => uptoBulk d + 1
  | .slice elems spare => uptoBulkAll elems + uptoBulkAll spare + 1
  | .agg parts => uptoBulkAll parts + 1
  | .iface _ d => uptoBulk d + 1
  | .map entries => uptoBulkEntries entries + 1
  | .held _ => 1
def uptoBulkAll {H : Type} : List (DataW H) → Nat
  | [] => 0
  | d :: r => uptoBulk d + uptoBulkAll r
def uptoBulkEntries {H : Type} : List (Lit × DataW H) → Nat
  | [] => 0
  | x :: r => uptoBulkEntry x + uptoBulkEntries r
def uptoBulkEntry {H : Type} : Lit × DataW H → Nat
  | (.string bytes, d) => bytes.length + uptoBulk d + 1
  | (_, d) => uptoBulk d + 1
 end
def uptoSmall : (H : Type) → List (DataW H) → Bool := fun _ ds => decide (uptoBulkAll ds ≤ 1048576)
def OpenSpec.upto (s : _root_.Go.ChangeSpec) : _root_.Go.OpenSpec := { _root_.Go.OpenSpec.ofChange s with cond := some uptoSmall }

/-- 'staithelaw22.QueryBefore', WHERE WHAT IT READS IS OF BULK AT MOST 1048576: true; the input reads as it did. -/
def queryBeforeUptoRow : OpenClaim := { program := "ytpmkfhfojmlalaa", sum := "3d65bcdd3ac85838435c7d0f4d70296bb2c0d903d4facff3c0f61c3011ae14fe", func := "staithe/staithelaw22.QueryBefore", spec := "queryBefore", unfollowed := true, recurses := true, apart := false, narrowed := true }
def QueryBeforeUptoSaid : Prop := queryBeforeUptoRow.holds Try.pinned (OpenSpec.upto queryBeforeSpec)

/-- 'staithelaw22.QueryKnown', WHERE WHAT IT READS IS OF BULK AT MOST 1048576: true; the input reads as it did. -/
def queryKnownUptoRow : OpenClaim := { program := "ytpmkfhfojmlalaa", sum := "3d65bcdd3ac85838435c7d0f4d70296bb2c0d903d4facff3c0f61c3011ae14fe", func := "staithe/staithelaw22.QueryKnown", spec := "queryKnown", unfollowed := true, recurses := true, apart := false, narrowed := true }
def QueryKnownUptoSaid : Prop := queryKnownUptoRow.holds Try.pinned (OpenSpec.upto queryKnownSpec)

/-- 'staithelaw22.QueryEarlier', WHERE WHAT IT READS IS OF BULK AT MOST 1048576: true; the input reads as it did. -/
def queryEarlierUptoRow : OpenClaim := { program := "ytpmkfhfojmlalaa", sum := "3d65bcdd3ac85838435c7d0f4d70296bb2c0d903d4facff3c0f61c3011ae14fe", func := "staithe/staithelaw22.QueryEarlier", spec := "queryEarlier", unfollowed := true, recurses := true, apart := false, narrowed := true }
def QueryEarlierUptoSaid : Prop := queryEarlierUptoRow.holds Try.pinned (OpenSpec.upto queryEarlierSpec)

end Rows
end Go.Proofs.Ytpmkfhfojmlalaa
