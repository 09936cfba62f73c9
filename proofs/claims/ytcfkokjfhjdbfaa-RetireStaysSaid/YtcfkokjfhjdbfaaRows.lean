/-
  No cell of these rows narrows 'for every input' (looked for: loops, veiled, ifaces, maps, wideKeys, modest, calm, conditions, laid).
  DERIVED. THE GIVEN ROWS OF THIS SEAT. 4 by the template 'for every input the law returns true; each argument reads behind the call as it read before'; 0 by the template 'total and deterministic' (their statements: YtcfkokjfhjdbfaaTotals.lean).
  GIVEN WITH THE SEED: the statements are not yours to turn. If you find one false, say at which input.
  Laid BY PROGRAM, IN A SANDBOX (cutbox-rows.mjs): the forced cells as the released guide's own fill.sh prints them over the translation 3d35f6732ae94879… (all of the seat's roots in one cut). By AI agents, Wed Nov 11 2026. No macro, syntax, notation, axiom, sorry.
-/
import Derived.Test.YtcfkokjfhjdbfaaChecked
import GoSem.Claim
import GoSem.ClaimJoined
import GoSem.ClaimMapViews
import Derived.JoinedTies
import Derived.KernelRfl
namespace Go.Proofs.Ytcfkokjfhjdbfaa
/- THE CELL 'sum', in the pinned program and in every row, IS THE sha256 OF THE DUMP (.gsa) THAT YtcfkokjfhjdbfaaProg.lean LOADS. Nothing in Lean hashes anything: it is a label: what it is worth is what the hold of that sum in a sandbox is worth. -/
noncomputable def Try.pinned : Pinned := { name := "ytcfkokjfhjdbfaa", sum := "3d35f6732ae948791cfcc6043c9399688ca087e39c0fcdb8aedfd28313d90a0b", checked := Try.checked }
namespace Rows
def none {H : Type} : Left H := { results := [], args := [] }

/-- 'staithelaw20.RetireOf': WHATEVER THE INPUT: true; the input reads as it did. -/
def retireOfSpec : ChangeSpec := { name := "retireOf", fn := fun _ => fun
  | [d1, d2, d3] => { results := [.lit (.bool true)], args := [d1, d2, d3] }
  | _ => none }
def retireOfRow : OpenClaim := { program := "ytcfkokjfhjdbfaa", sum := "3d35f6732ae948791cfcc6043c9399688ca087e39c0fcdb8aedfd28313d90a0b", func := "staithe/staithelaw20.RetireOf", spec := "retireOf", unfollowed := true, recurses := true, apart := false }
def RetireOfSaid : Prop := retireOfRow.holds Try.pinned (OpenSpec.ofChange retireOfSpec)

/-- ITS FALSE NEIGHBOUR: 'it returns false'. Refute it at one input. -/
def retireOfWrong : ChangeSpec := { name := "retireOf", fn := fun _ => fun
  | [d1, d2, d3] => { results := [.lit (.bool false)], args := [d1, d2, d3] }
  | _ => none }
def RetireOfWrongFalsely : Prop := retireOfRow.holds Try.pinned (OpenSpec.ofChange retireOfWrong)

/-- 'staithelaw20.RetireFewer': WHATEVER THE INPUT: true; the input reads as it did. -/
def retireFewerSpec : ChangeSpec := { name := "retireFewer", fn := fun _ => fun
  | [d1, d2, d3] => { results := [.lit (.bool true)], args := [d1, d2, d3] }
  | _ => none }
def retireFewerRow : OpenClaim := { program := "ytcfkokjfhjdbfaa", sum := "3d35f6732ae948791cfcc6043c9399688ca087e39c0fcdb8aedfd28313d90a0b", func := "staithe/staithelaw20.RetireFewer", spec := "retireFewer", unfollowed := true, recurses := true, apart := false }
def RetireFewerSaid : Prop := retireFewerRow.holds Try.pinned (OpenSpec.ofChange retireFewerSpec)

/-- ITS FALSE NEIGHBOUR: 'it returns false'. Refute it at one input. -/
def retireFewerWrong : ChangeSpec := { name := "retireFewer", fn := fun _ => fun
  | [d1, d2, d3] => { results := [.lit (.bool false)], args := [d1, d2, d3] }
  | _ => none }
def RetireFewerWrongFalsely : Prop := retireFewerRow.holds Try.pinned (OpenSpec.ofChange retireFewerWrong)

/-- 'staithelaw20.RetireAll': WHATEVER THE INPUT: true; the input reads as it did. -/
def retireAllSpec : ChangeSpec := { name := "retireAll", fn := fun _ => fun
  | [d1, d2, d3] => { results := [.lit (.bool true)], args := [d1, d2, d3] }
  | _ => none }
def retireAllRow : OpenClaim := { program := "ytcfkokjfhjdbfaa", sum := "3d35f6732ae948791cfcc6043c9399688ca087e39c0fcdb8aedfd28313d90a0b", func := "staithe/staithelaw20.RetireAll", spec := "retireAll", unfollowed := true, recurses := true, apart := false }
def RetireAllSaid : Prop := retireAllRow.holds Try.pinned (OpenSpec.ofChange retireAllSpec)

/-- ITS FALSE NEIGHBOUR: 'it returns false'. Refute it at one input. -/
def retireAllWrong : ChangeSpec := { name := "retireAll", fn := fun _ => fun
  | [d1, d2, d3] => { results := [.lit (.bool false)], args := [d1, d2, d3] }
  | _ => none }
def RetireAllWrongFalsely : Prop := retireAllRow.holds Try.pinned (OpenSpec.ofChange retireAllWrong)

/-- 'staithelaw20.RetireStays': WHATEVER THE INPUT: true; the input reads as it did. -/
def retireStaysSpec : ChangeSpec := { name := "retireStays", fn := fun _ => fun
  | [d1, d2, d3] => { results := [.lit (.bool true)], args := [d1, d2, d3] }
  | _ => none }
def retireStaysRow : OpenClaim := { program := "ytcfkokjfhjdbfaa", sum := "3d35f6732ae948791cfcc6043c9399688ca087e39c0fcdb8aedfd28313d90a0b", func := "staithe/staithelaw20.RetireStays", spec := "retireStays", unfollowed := true, recurses := true, apart := false }
def RetireStaysSaid : Prop := retireStaysRow.holds Try.pinned (OpenSpec.ofChange retireStaysSpec)

/-- ITS FALSE NEIGHBOUR: 'it returns false'. Refute it at one input. -/
def retireStaysWrong : ChangeSpec := { name := "retireStays", fn := fun _ => fun
  | [d1, d2, d3] => { results := [.lit (.bool false)], args := [d1, d2, d3] }
  | _ => none }
def RetireStaysWrongFalsely : Prop := retireStaysRow.holds Try.pinned (OpenSpec.ofChange retireStaysWrong)

/- THE SECOND FORM. 'bulk': how many values and letters a reading holds, each counted each time it is reached (what is shared counts as often as it is met; a slice's spare places count too). A statement '..UptoSaid' is the law's where the arguments, and the package variables that the reading takes, are together of bulk at most 1048576: NARROWER than '..Said'. Prove '..Said' where nothing that the law and all that it calls make is longer than what came in: it says more and counts as full. Else prove '..UptoSaid'. A law counts once. -/
mutual
def uptoBulk {H : Type} : DataW H → Nat
  | .lit (.string bytes) => bytes.length + 1
  | .lit _ => 1
  | .nil => 1
  | .ptr d => uptoBulk d + 1
  | .slice elems spare => uptoBulkAll elems + uptoBulkAll spare + 1
  | .agg parts => uptoBulkAll parts + 1
  | .iface _ d => uptoBulk d + 1
  | .map entries => uptoBulkEntries entries + 1
  | .held _ => 1
def uptoBulkAll {H : Type} : List (DataW H) → Nat
  | [] => 0
  | d :: r => uptoBulk d + uptoBulkAll r
def uptoBulkEntries {H : Type} : List (Lit × DataW H) → Nat
  | [] => 0
  | x :: r => uptoBulkEntry x + uptoBulkEntries r
def uptoBulkEntry {H : Type} : Lit × DataW H → Nat
  | (.string bytes, d) => bytes.length + uptoBulk d + 1
  | (_, d) => uptoBulk d + 1
 end
def uptoSmall : (H : Type) → List (DataW H) → Bool := fun _ ds => decide (uptoBulkAll ds ≤ 1048576)
def OpenSpec.upto (s : _root_.Go.ChangeSpec) : _root_.Go.OpenSpec := { _root_.Go.OpenSpec.ofChange s with cond := some uptoSmall }

/-- 'staithelaw20.RetireOf', WHERE WHAT IT READS IS OF BULK AT MOST 1048576: true; the input reads as it did. -/
def retireOfUptoRow : OpenClaim := { program := "ytcfkokjfhjdbfaa", sum := "3d35f6732ae948791cfcc6043c9399688ca087e39c0fcdb8aedfd28313d90a0b", func := "staithe/staithelaw20.RetireOf", spec := "retireOf", unfollowed := true, recurses := true, apart := false, narrowed := true }
def RetireOfUptoSaid : Prop := retireOfUptoRow.holds Try.pinned (OpenSpec.upto retireOfSpec)

/-- 'staithelaw20.RetireFewer', WHERE WHAT IT READS IS OF BULK AT MOST 1048576: true; the input reads as it did. -/
def retireFewerUptoRow : OpenClaim := { program := "ytcfkokjfhjdbfaa", sum := "3d35f6732ae948791cfcc6043c9399688ca087e39c0fcdb8aedfd28313d90a0b", func := "staithe/staithelaw20.RetireFewer", spec := "retireFewer", unfollowed := true, recurses := true, apart := false, narrowed := true }
def RetireFewerUptoSaid : Prop := retireFewerUptoRow.holds Try.pinned (OpenSpec.upto retireFewerSpec)

/-- 'staithelaw20.RetireAll', WHERE WHAT IT READS IS OF BULK AT MOST 1048576: true; the input reads as it did. -/
def retireAllUptoRow : OpenClaim := { program := "ytcfkokjfhjdbfaa", sum := "3d35f6732ae948791cfcc6043c9399688ca087e39c0fcdb8aedfd28313d90a0b", func := "staithe/staithelaw20.RetireAll", spec := "retireAll", unfollowed := true, recurses := true, apart := false, narrowed := true }
def RetireAllUptoSaid : Prop := retireAllUptoRow.holds Try.pinned (OpenSpec.upto retireAllSpec)

/-- 'staithelaw20.RetireStays', WHERE WHAT IT READS IS OF BULK AT MOST 1048576: true; the input reads as it did. -/
def retireStaysUptoRow : OpenClaim := { program := "ytcfkokjfhjdbfaa", sum := "3d35f6732ae948791cfcc6043c9399688ca087e39c0fcdb8aedfd28313d90a0b", func := "staithe/staithelaw20.RetireStays", spec := "retireStays", unfollowed := true, recurses := true, apart := false, narrowed := true }
def RetireStaysUptoSaid : Prop := retireStaysUptoRow.holds Try.pinned (OpenSpec.upto retireStaysSpec)

end Rows
end Go.Proofs.Ytcfkokjfhjdbfaa
