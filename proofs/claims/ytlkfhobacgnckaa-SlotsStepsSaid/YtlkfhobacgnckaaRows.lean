/-
  No cell of these rows narrows 'for every input' (looked for: loops, veiled, ifaces, maps, wideKeys, modest, calm, conditions, laid).
  DERIVED. THE GIVEN ROWS OF THIS SEAT. 5 by the template 'for every input the law returns true; each argument reads behind the call as it read before'; 0 by the template 'total and deterministic' (their statements: YtlkfhobacgnckaaTotals.lean).
  GIVEN WITH THE SEED: the statements are not yours to turn. If you find one false, say at which input.
  Laid BY PROGRAM, IN A SANDBOX (cutbox-rows.mjs): the forced cells as the released guide's own fill.sh prints them over the translation 1c873f59cec4fa92… (all of the seat's roots in one cut). By AI agents, Wed Nov 11 2026. No macro, syntax, notation, axiom, sorry.
-/
import Derived.Test.YtlkfhobacgnckaaChecked
import GoSem.Claim
import GoSem.ClaimJoined
import GoSem.ClaimMapViews
import Derived.JoinedTies
import Derived.KernelRfl
namespace Go.Proofs.Ytlkfhobacgnckaa
/- THE CELL 'sum', in the pinned program and in every row, IS THE sha256 OF THE DUMP (.gsa) THAT YtlkfhobacgnckaaProg.lean LOADS. Nothing in Lean hashes anything: it is a label: what it is worth is what the hold of that sum in a sandbox is worth. -/
noncomputable def Try.pinned : Pinned := { name := "ytlkfhobacgnckaa", sum := "1c873f59cec4fa9213c1288add892512cb9b9c1d15f1faf91279e345aeeaae3f", checked := Try.checked }
namespace Rows
def none {H : Type} : Left H := { results := [], args := [] }

/-- 'staithelaw15.SlotsPairs': WHATEVER THE INPUT: true; the input reads as it did. -/
def slotsPairsSpec : ChangeSpec := { name := "slotsPairs", fn := fun _ => fun
  | [d1, d2] => { results := [.lit (.bool true)], args := [d1, d2] }
  | _ => none }
def slotsPairsRow : OpenClaim := { program := "ytlkfhobacgnckaa", sum := "1c873f59cec4fa9213c1288add892512cb9b9c1d15f1faf91279e345aeeaae3f", func := "staithe/staithelaw15.SlotsPairs", spec := "slotsPairs", apart := false }
def SlotsPairsSaid : Prop := slotsPairsRow.holds Try.pinned (OpenSpec.ofChange slotsPairsSpec)

/-- ITS FALSE NEIGHBOUR: 'it returns false'. Refute it at one input. -/
def slotsPairsWrong : ChangeSpec := { name := "slotsPairs", fn := fun _ => fun
  | [d1, d2] => { results := [.lit (.bool false)], args := [d1, d2] }
  | _ => none }
def SlotsPairsWrongFalsely : Prop := slotsPairsRow.holds Try.pinned (OpenSpec.ofChange slotsPairsWrong)

/-- 'staithelaw15.SlotsDrop': WHATEVER THE INPUT: true; the input reads as it did. -/
def slotsDropSpec : ChangeSpec := { name := "slotsDrop", fn := fun _ => fun
  | [d1, d2, d3] => { results := [.lit (.bool true)], args := [d1, d2, d3] }
  | _ => none }
def slotsDropRow : OpenClaim := { program := "ytlkfhobacgnckaa", sum := "1c873f59cec4fa9213c1288add892512cb9b9c1d15f1faf91279e345aeeaae3f", func := "staithe/staithelaw15.SlotsDrop", spec := "slotsDrop", apart := false }
def SlotsDropSaid : Prop := slotsDropRow.holds Try.pinned (OpenSpec.ofChange slotsDropSpec)

/-- ITS FALSE NEIGHBOUR: 'it returns false'. Refute it at one input. -/
def slotsDropWrong : ChangeSpec := { name := "slotsDrop", fn := fun _ => fun
  | [d1, d2, d3] => { results := [.lit (.bool false)], args := [d1, d2, d3] }
  | _ => none }
def SlotsDropWrongFalsely : Prop := slotsDropRow.holds Try.pinned (OpenSpec.ofChange slotsDropWrong)

/-- 'staithelaw15.SlotsOwn': WHATEVER THE INPUT: true; the input reads as it did. -/
def slotsOwnSpec : ChangeSpec := { name := "slotsOwn", fn := fun _ => fun
  | [d1, d2, d3] => { results := [.lit (.bool true)], args := [d1, d2, d3] }
  | _ => none }
def slotsOwnRow : OpenClaim := { program := "ytlkfhobacgnckaa", sum := "1c873f59cec4fa9213c1288add892512cb9b9c1d15f1faf91279e345aeeaae3f", func := "staithe/staithelaw15.SlotsOwn", spec := "slotsOwn", apart := false }
def SlotsOwnSaid : Prop := slotsOwnRow.holds Try.pinned (OpenSpec.ofChange slotsOwnSpec)

/-- ITS FALSE NEIGHBOUR: 'it returns false'. Refute it at one input. -/
def slotsOwnWrong : ChangeSpec := { name := "slotsOwn", fn := fun _ => fun
  | [d1, d2, d3] => { results := [.lit (.bool false)], args := [d1, d2, d3] }
  | _ => none }
def SlotsOwnWrongFalsely : Prop := slotsOwnRow.holds Try.pinned (OpenSpec.ofChange slotsOwnWrong)

/-- 'staithelaw15.SlotsSteps': WHATEVER THE INPUT: true; the input reads as it did. -/
def slotsStepsSpec : ChangeSpec := { name := "slotsSteps", fn := fun _ => fun
  | [d1, d2] => { results := [.lit (.bool true)], args := [d1, d2] }
  | _ => none }
def slotsStepsRow : OpenClaim := { program := "ytlkfhobacgnckaa", sum := "1c873f59cec4fa9213c1288add892512cb9b9c1d15f1faf91279e345aeeaae3f", func := "staithe/staithelaw15.SlotsSteps", spec := "slotsSteps", apart := false }
def SlotsStepsSaid : Prop := slotsStepsRow.holds Try.pinned (OpenSpec.ofChange slotsStepsSpec)

/-- ITS FALSE NEIGHBOUR: 'it returns false'. Refute it at one input. -/
def slotsStepsWrong : ChangeSpec := { name := "slotsSteps", fn := fun _ => fun
  | [d1, d2] => { results := [.lit (.bool false)], args := [d1, d2] }
  | _ => none }
def SlotsStepsWrongFalsely : Prop := slotsStepsRow.holds Try.pinned (OpenSpec.ofChange slotsStepsWrong)

/-- 'staithelaw15.SlotsNil': WHATEVER THE INPUT: true; the input reads as it did. -/
def slotsNilSpec : ChangeSpec := { name := "slotsNil", fn := fun _ => fun
  | [d1, d2] => { results := [.lit (.bool true)], args := [d1, d2] }
  | _ => none }
def slotsNilRow : OpenClaim := { program := "ytlkfhobacgnckaa", sum := "1c873f59cec4fa9213c1288add892512cb9b9c1d15f1faf91279e345aeeaae3f", func := "staithe/staithelaw15.SlotsNil", spec := "slotsNil", apart := false }
def SlotsNilSaid : Prop := slotsNilRow.holds Try.pinned (OpenSpec.ofChange slotsNilSpec)

/-- ITS FALSE NEIGHBOUR: 'it returns false'. Refute it at one input. -/
def slotsNilWrong : ChangeSpec := { name := "slotsNil", fn := fun _ => fun
  | [d1, d2] => { results := [.lit (.bool false)], args := [d1, d2] }
  | _ => none }
def SlotsNilWrongFalsely : Prop := slotsNilRow.holds Try.pinned (OpenSpec.ofChange slotsNilWrong)

/- THE SECOND FORM. 'bulk': how many values and letters a reading holds, each counted each time it is reached (what is shared counts as often as it is met; a slice's spare places count too). A statement '..UptoSaid' is the law's where the arguments, and the package variables that the reading takes, are together of bulk at most 1048576: NARROWER than '..Said'. Prove '..Said' where nothing that the law and all that it calls make is longer than what came in: it says more and counts as full. Else prove '..UptoSaid'. A law counts once. -/
mutual
def uptoBulk {H : Type} : DataW H → Nat
  | .lit (.string bytes) => bytes.length + 1
  | .lit _ => 1
  | .nil => 1
  | .ptr d => uptoBulk d + 1
  | .slice elems spare => uptoBulkAll elems + uptoBulkAll spare + 1
  | .agg parts => uptoBulkAll parts + 1
  | .iface _ d => uptoBulk d + 1
  | .map entries => uptoBulkEntries entries + 1
  | .held _ => 1
def uptoBulkAll {H : Type} : List (DataW H) → Nat
  | [] => 0
  | d :: r => uptoBulk d + uptoBulkAll r
def uptoBulkEntries {H : Type} : List (Lit × DataW H) → Nat
  | [] => 0
  | x :: r => uptoBulkEntry x + uptoBulkEntries r
def uptoBulkEntry {H : Type} : Lit × DataW H → Nat
  | (.string bytes, d) => bytes.length + uptoBulk d + 1
  | (_, d) => uptoBulk d + 1
 end
def uptoSmall : (H : Type) → List (DataW H) → Bool := fun _ ds => decide (uptoBulkAll ds ≤ 1048576)
def OpenSpec.upto (s : _root_.Go.ChangeSpec) : _root_.Go.OpenSpec := { _root_.Go.OpenSpec.ofChange s with cond := some uptoSmall }

/-- 'staithelaw15.SlotsPairs', WHERE WHAT IT READS IS OF BULK AT MOST 1048576: true; the input reads as it did. -/
def slotsPairsUptoRow : OpenClaim := { program := "ytlkfhobacgnckaa", sum := "1c873f59cec4fa9213c1288add892512cb9b9c1d15f1faf91279e345aeeaae3f", func := "staithe/staithelaw15.SlotsPairs", spec := "slotsPairs", apart := false, narrowed := true }
def SlotsPairsUptoSaid : Prop := slotsPairsUptoRow.holds Try.pinned (OpenSpec.upto slotsPairsSpec)

/-- 'staithelaw15.SlotsDrop', WHERE WHAT IT READS IS OF BULK AT MOST 1048576: true; the input reads as it did. -/
def slotsDropUptoRow : OpenClaim := { program := "ytlkfhobacgnckaa", sum := "1c873f59cec4fa9213c1288add892512cb9b9c1d15f1faf91279e345aeeaae3f", func := "staithe/staithelaw15.SlotsDrop", spec := "slotsDrop", apart := false, narrowed := true }
def SlotsDropUptoSaid : Prop := slotsDropUptoRow.holds Try.pinned (OpenSpec.upto slotsDropSpec)

/-- 'staithelaw15.SlotsOwn', WHERE WHAT IT READS IS OF BULK AT MOST 1048576: true; the input reads as it did. -/
def slotsOwnUptoRow : OpenClaim := { program := "ytlkfhobacgnckaa", sum := "1c873f59cec4fa9213c1288add892512cb9b9c1d15f1faf91279e345aeeaae3f", func := "staithe/staithelaw15.SlotsOwn", spec := "slotsOwn", apart := false, narrowed := true }
def SlotsOwnUptoSaid : Prop := slotsOwnUptoRow.holds Try.pinned (OpenSpec.upto slotsOwnSpec)

/-- 'staithelaw15.SlotsSteps', WHERE WHAT IT READS IS OF BULK AT MOST 1048576: true; the input reads as it did. -/
def slotsStepsUptoRow : OpenClaim := { program := "ytlkfhobacgnckaa", sum := "1c873f59cec4fa9213c1288add892512cb9b9c1d15f1faf91279e345aeeaae3f", func := "staithe/staithelaw15.SlotsSteps", spec := "slotsSteps", apart := false, narrowed := true }
def SlotsStepsUptoSaid : Prop := slotsStepsUptoRow.holds Try.pinned (OpenSpec.upto slotsStepsSpec)

/-- 'staithelaw15.SlotsNil', WHERE WHAT IT READS IS OF BULK AT MOST 1048576: true; the input reads as it did. -/
def slotsNilUptoRow : OpenClaim := { program := "ytlkfhobacgnckaa", sum := "1c873f59cec4fa9213c1288add892512cb9b9c1d15f1faf91279e345aeeaae3f", func := "staithe/staithelaw15.SlotsNil", spec := "slotsNil", apart := false, narrowed := true }
def SlotsNilUptoSaid : Prop := slotsNilUptoRow.holds Try.pinned (OpenSpec.upto slotsNilSpec)

end Rows
end Go.Proofs.Ytlkfhobacgnckaa
