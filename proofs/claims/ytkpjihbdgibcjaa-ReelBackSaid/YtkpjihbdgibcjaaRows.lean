/-
  No cell of these rows narrows 'for every input' (looked for: loops, veiled, ifaces, maps, wideKeys, modest, calm, conditions, laid).
  DERIVED. THE GIVEN ROWS OF THIS SEAT. 6 by the template 'for every input the law returns true; each argument reads behind the call as it read before'; 0 by the template 'total and deterministic' (their statements: YtkpjihbdgibcjaaTotals.lean).
  GIVEN WITH THE SEED: the statements are not yours to turn. If you find one false, say at which input.
  Laid BY PROGRAM, IN A SANDBOX (cutbox-rows.mjs): the forced cells as the released guide's own fill.sh prints them over the translation 7cc31b7df1be53e9… (all of the seat's roots in one cut). By AI agents, Wed Nov 11 2026. No macro, syntax, notation, axiom, sorry.
-/
import Derived.Test.YtkpjihbdgibcjaaChecked
import GoSem.Claim
import GoSem.ClaimJoined
import GoSem.ClaimMapViews
import Derived.JoinedTies
import Derived.KernelRfl
namespace Go.Proofs.Ytkpjihbdgibcjaa
/- THE CELL 'sum', in the pinned program and in every row, IS THE sha256 OF THE DUMP (.gsa) THAT YtkpjihbdgibcjaaProg.lean LOADS. Nothing in Lean hashes anything: it is a label: what it is worth is what the hold of that sum in a sandbox is worth. -/
noncomputable def Try.pinned : Pinned := { name := "ytkpjihbdgibcjaa", sum := "7cc31b7df1be53e96fb2f9347c0645dfedbba8a77c3076cfbc5f082efdd522eb", checked := Try.checked }
namespace Rows
def none {H : Type} : Left H := { results := [], args := [] }

/-- 'staithelaw03.ReelPuts': WHATEVER THE INPUT: true; the input reads as it did. -/
def reelPutsSpec : ChangeSpec := { name := "reelPuts", fn := fun _ => fun
  | [d] => { results := [.lit (.bool true)], args := [d] }
  | _ => none }
def reelPutsRow : OpenClaim := { program := "ytkpjihbdgibcjaa", sum := "7cc31b7df1be53e96fb2f9347c0645dfedbba8a77c3076cfbc5f082efdd522eb", func := "staithe/staithelaw03.ReelPuts", spec := "reelPuts", apart := false }
def ReelPutsSaid : Prop := reelPutsRow.holds Try.pinned (OpenSpec.ofChange reelPutsSpec)

/-- ITS FALSE NEIGHBOUR: 'it returns false'. Refute it at one input. -/
def reelPutsWrong : ChangeSpec := { name := "reelPuts", fn := fun _ => fun
  | [d] => { results := [.lit (.bool false)], args := [d] }
  | _ => none }
def ReelPutsWrongFalsely : Prop := reelPutsRow.holds Try.pinned (OpenSpec.ofChange reelPutsWrong)

/-- 'staithelaw03.ReelTakes': WHATEVER THE INPUT: true; the input reads as it did. -/
def reelTakesSpec : ChangeSpec := { name := "reelTakes", fn := fun _ => fun
  | [d] => { results := [.lit (.bool true)], args := [d] }
  | _ => none }
def reelTakesRow : OpenClaim := { program := "ytkpjihbdgibcjaa", sum := "7cc31b7df1be53e96fb2f9347c0645dfedbba8a77c3076cfbc5f082efdd522eb", func := "staithe/staithelaw03.ReelTakes", spec := "reelTakes", apart := false }
def ReelTakesSaid : Prop := reelTakesRow.holds Try.pinned (OpenSpec.ofChange reelTakesSpec)

/-- ITS FALSE NEIGHBOUR: 'it returns false'. Refute it at one input. -/
def reelTakesWrong : ChangeSpec := { name := "reelTakes", fn := fun _ => fun
  | [d] => { results := [.lit (.bool false)], args := [d] }
  | _ => none }
def ReelTakesWrongFalsely : Prop := reelTakesRow.holds Try.pinned (OpenSpec.ofChange reelTakesWrong)

/-- 'staithelaw03.ReelSizes': WHATEVER THE INPUT: true; the input reads as it did. -/
def reelSizesSpec : ChangeSpec := { name := "reelSizes", fn := fun _ => fun
  | [d1, d2] => { results := [.lit (.bool true)], args := [d1, d2] }
  | _ => none }
def reelSizesRow : OpenClaim := { program := "ytkpjihbdgibcjaa", sum := "7cc31b7df1be53e96fb2f9347c0645dfedbba8a77c3076cfbc5f082efdd522eb", func := "staithe/staithelaw03.ReelSizes", spec := "reelSizes", apart := false }
def ReelSizesSaid : Prop := reelSizesRow.holds Try.pinned (OpenSpec.ofChange reelSizesSpec)

/-- ITS FALSE NEIGHBOUR: 'it returns false'. Refute it at one input. -/
def reelSizesWrong : ChangeSpec := { name := "reelSizes", fn := fun _ => fun
  | [d1, d2] => { results := [.lit (.bool false)], args := [d1, d2] }
  | _ => none }
def ReelSizesWrongFalsely : Prop := reelSizesRow.holds Try.pinned (OpenSpec.ofChange reelSizesWrong)

/-- 'staithelaw03.ReelTakesLists': WHATEVER THE INPUT: true; the input reads as it did. -/
def reelTakesListsSpec : ChangeSpec := { name := "reelTakesLists", fn := fun _ => fun
  | [d1, d2] => { results := [.lit (.bool true)], args := [d1, d2] }
  | _ => none }
def reelTakesListsRow : OpenClaim := { program := "ytkpjihbdgibcjaa", sum := "7cc31b7df1be53e96fb2f9347c0645dfedbba8a77c3076cfbc5f082efdd522eb", func := "staithe/staithelaw03.ReelTakesLists", spec := "reelTakesLists", apart := false }
def ReelTakesListsSaid : Prop := reelTakesListsRow.holds Try.pinned (OpenSpec.ofChange reelTakesListsSpec)

/-- ITS FALSE NEIGHBOUR: 'it returns false'. Refute it at one input. -/
def reelTakesListsWrong : ChangeSpec := { name := "reelTakesLists", fn := fun _ => fun
  | [d1, d2] => { results := [.lit (.bool false)], args := [d1, d2] }
  | _ => none }
def ReelTakesListsWrongFalsely : Prop := reelTakesListsRow.holds Try.pinned (OpenSpec.ofChange reelTakesListsWrong)

/-- 'staithelaw03.ReelLists': WHATEVER THE INPUT: true; the input reads as it did. -/
def reelListsSpec : ChangeSpec := { name := "reelLists", fn := fun _ => fun
  | [d] => { results := [.lit (.bool true)], args := [d] }
  | _ => none }
def reelListsRow : OpenClaim := { program := "ytkpjihbdgibcjaa", sum := "7cc31b7df1be53e96fb2f9347c0645dfedbba8a77c3076cfbc5f082efdd522eb", func := "staithe/staithelaw03.ReelLists", spec := "reelLists", inPlace := ["internal/abi.NoEscape"], apart := false }
def ReelListsSaid : Prop := reelListsRow.holds Try.pinned (OpenSpec.ofChange reelListsSpec)

/-- ITS FALSE NEIGHBOUR: 'it returns false'. Refute it at one input. -/
def reelListsWrong : ChangeSpec := { name := "reelLists", fn := fun _ => fun
  | [d] => { results := [.lit (.bool false)], args := [d] }
  | _ => none }
def ReelListsWrongFalsely : Prop := reelListsRow.holds Try.pinned (OpenSpec.ofChange reelListsWrong)

/-- 'staithelaw03.ReelBack': WHATEVER THE INPUT: true; the input reads as it did. -/
def reelBackSpec : ChangeSpec := { name := "reelBack", fn := fun _ => fun
  | [d1, d2] => { results := [.lit (.bool true)], args := [d1, d2] }
  | _ => none }
def reelBackRow : OpenClaim := { program := "ytkpjihbdgibcjaa", sum := "7cc31b7df1be53e96fb2f9347c0645dfedbba8a77c3076cfbc5f082efdd522eb", func := "staithe/staithelaw03.ReelBack", spec := "reelBack", inPlace := ["internal/abi.NoEscape"], apart := false }
def ReelBackSaid : Prop := reelBackRow.holds Try.pinned (OpenSpec.ofChange reelBackSpec)

/-- ITS FALSE NEIGHBOUR: 'it returns false'. Refute it at one input. -/
def reelBackWrong : ChangeSpec := { name := "reelBack", fn := fun _ => fun
  | [d1, d2] => { results := [.lit (.bool false)], args := [d1, d2] }
  | _ => none }
def ReelBackWrongFalsely : Prop := reelBackRow.holds Try.pinned (OpenSpec.ofChange reelBackWrong)

/- THE SECOND FORM. 'bulk': how many values and letters a reading holds, each counted each time it is reached (what is shared counts as often as it is met; a slice's spare places count too). A statement '..UptoSaid' is the law's where the arguments, and the package variables that the reading takes, are together of bulk at most 1048576: NARROWER than '..Said'. Prove '..Said' where nothing that the law and all that it calls make is longer than what came in: it says more and counts as full. Else prove '..UptoSaid'. A law counts once. -/
mutual
def uptoBulk {H : Type} : DataW H → Nat
  | .lit (.string bytes) => bytes.length + 1
  | .lit _ => 1
  | .nil => 1
  | .ptr d => uptoBulk d + 1
  | .slice elems spare => uptoBulkAll elems + uptoBulkAll spare + 1
  | .agg parts => uptoBulkAll parts + 1
  | .iface _ d => uptoBulk d + 1
  | .map entries => uptoBulkEntries entries + 1
  | .held _ => 1
def uptoBulkAll {H : Type} : List (DataW H) → Nat
  | [] => 0
  | d :: r => uptoBulk d + uptoBulkAll r
def uptoBulkEntries {H : Type} : List (Lit × DataW H) → Nat
  | [] => 0
  | x :: r => uptoBulkEntry x + uptoBulkEntries r
def uptoBulkEntry {H : Type} : Lit × DataW H → Nat
  | (.string bytes, d) => bytes.length + uptoBulk d + 1
  | (_, d) => uptoBulk d + 1
 end
def uptoSmall : (H : Type) → List (DataW H) → Bool := fun _ ds => decide (uptoBulkAll ds ≤ 1048576)
def OpenSpec.upto (s : _root_.Go.ChangeSpec) : _root_.Go.OpenSpec := { _root_.Go.OpenSpec.ofChange s with cond := some uptoSmall }

/-- 'staithelaw03.ReelPuts', WHERE WHAT IT READS IS OF BULK AT MOST 1048576: true; the input reads as it did. -/
def reelPutsUptoRow : OpenClaim := { program := "ytkpjihbdgibcjaa", sum := "7cc31b7df1be53e96fb2f9347c0645dfedbba8a77c3076cfbc5f082efdd522eb", func := "staithe/staithelaw03.ReelPuts", spec := "reelPuts", apart := false, narrowed := true }
def ReelPutsUptoSaid : Prop := reelPutsUptoRow.holds Try.pinned (OpenSpec.upto reelPutsSpec)

/-- 'staithelaw03.ReelTakes', WHERE WHAT IT READS IS OF BULK AT MOST 1048576: true; the input reads as it did. -/
def reelTakesUptoRow : OpenClaim := { program := "ytkpjihbdgibcjaa", sum := "7cc31b7df1be53e96fb2f9347c0645dfedbba8a77c3076cfbc5f082efdd522eb", func := "staithe/staithelaw03.ReelTakes", spec := "reelTakes", apart := false, narrowed := true }
def ReelTakesUptoSaid : Prop := reelTakesUptoRow.holds Try.pinned (OpenSpec.upto reelTakesSpec)

/-- 'staithelaw03.ReelSizes', WHERE WHAT IT READS IS OF BULK AT MOST 1048576: true; the input reads as it did. -/
def reelSizesUptoRow : OpenClaim := { program := "ytkpjihbdgibcjaa", sum := "7cc31b7df1be53e96fb2f9347c0645dfedbba8a77c3076cfbc5f082efdd522eb", func := "staithe/staithelaw03.ReelSizes", spec := "reelSizes", apart := false, narrowed := true }
def ReelSizesUptoSaid : Prop := reelSizesUptoRow.holds Try.pinned (OpenSpec.upto reelSizesSpec)

/-- 'staithelaw03.ReelTakesLists', WHERE WHAT IT READS IS OF BULK AT MOST 1048576: true; the input reads as it did. -/
def reelTakesListsUptoRow : OpenClaim := { program := "ytkpjihbdgibcjaa", sum := "7cc31b7df1be53e96fb2f9347c0645dfedbba8a77c3076cfbc5f082efdd522eb", func := "staithe/staithelaw03.ReelTakesLists", spec := "reelTakesLists", apart := false, narrowed := true }
def ReelTakesListsUptoSaid : Prop := reelTakesListsUptoRow.holds Try.pinned (OpenSpec.upto reelTakesListsSpec)

/-- 'staithelaw03.ReelLists', WHERE WHAT IT READS IS OF BULK AT MOST 1048576: true; the input reads as it did. -/
def reelListsUptoRow : OpenClaim := { program := "ytkpjihbdgibcjaa", sum := "7cc31b7df1be53e96fb2f9347c0645dfedbba8a77c3076cfbc5f082efdd522eb", func := "staithe/staithelaw03.ReelLists", spec := "reelLists", inPlace := ["internal/abi.NoEscape"], apart := false, narrowed := true }
def ReelListsUptoSaid : Prop := reelListsUptoRow.holds Try.pinned (OpenSpec.upto reelListsSpec)

/-- 'staithelaw03.ReelBack', WHERE WHAT IT READS IS OF BULK AT MOST 1048576: true; the input reads as it did. -/
def reelBackUptoRow : OpenClaim := { program := "ytkpjihbdgibcjaa", sum := "7cc31b7df1be53e96fb2f9347c0645dfedbba8a77c3076cfbc5f082efdd522eb", func := "staithe/staithelaw03.ReelBack", spec := "reelBack", inPlace := ["internal/abi.NoEscape"], apart := false, narrowed := true }
def ReelBackUptoSaid : Prop := reelBackUptoRow.holds Try.pinned (OpenSpec.upto reelBackSpec)

end Rows
end Go.Proofs.Ytkpjihbdgibcjaa
