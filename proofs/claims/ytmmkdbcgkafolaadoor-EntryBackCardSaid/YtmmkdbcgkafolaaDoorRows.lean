/-
  NARROWER THAN 'FOR EVERY INPUT', by the rows' own cells (each row's printed sentence says how): EntryChecks: laid · EntryDecodes: laid · EntryBare: laid · EntryApart: laid · EntryAll: laid · EntryBack: laid.
  DERIVED. THE GIVEN ROWS OF THIS SEAT. 6 by the template 'for every input the law returns true; each argument reads behind the call as it read before'; 0 by the template 'total and deterministic' (their statements: YtmmkdbcgkafolaaDoorTotals.lean).
  GIVEN WITH THE SEED: the statements are not yours to turn. If you find one false, say at which input.
  Laid BY PROGRAM, IN A SANDBOX (cutbox-rows.mjs): the forced cells as the released guide's own fill.sh prints them over the translation 180d51b8c30551e5… (all of the seat's roots in one cut). By AI agents, Wed Nov 11 2026. No macro, syntax, notation, axiom, sorry.
-/
import Derived.Test.YtmmkdbcgkafolaaDoorChecked
import GoSem.Claim
import GoSem.ClaimJoined
import GoSem.ClaimMapViews
import Derived.JoinedTies
import Derived.KernelRfl
namespace Go.Proofs.YtmmkdbcgkafolaaDoor
/- THE CELL 'sum', in the pinned program and in every row, IS THE sha256 OF THE DUMP (.gsa) THAT YtmmkdbcgkafolaaDoorProg.lean LOADS. Nothing in Lean hashes anything: it is a label: what it is worth is what the hold of that sum in a sandbox is worth. -/
noncomputable def Tryd.pinned : Pinned := { name := "ytmmkdbcgkafolaadoor", sum := "180d51b8c30551e5896decb9c4df9766ef8bd5f0d3d32e3537a587bee1672771", checked := Tryd.checked }
namespace Rows
def none {H : Type} : Left H := { results := [], args := [] }

/- WHAT THE LISTED PACKAGE-LEVEL VARIABLES READ AS WHEN THE CALL BEGINS. Each datum BY PROGRAM (the guide's laid-datum.mjs) off the statement by which the dump's own 'gosem.cut.vars' lays the variable. In a bare row this is a premise. The card (YtmmkdbcgkafolaaDoorCards.lean) ties it to the program's text. -/
def laid_staithe_entry_none {H : Type} : DataW H := .agg [.lit (.int .i64 (-1)), .lit (.int .i64 (-1))]
def laid_staithe_entry_id {H : Type} : DataW H := .agg [.lit (.int .i64 0), .lit (.int .i64 511)]
def laid_staithe_entry_maybe {H : Type} : DataW H := .agg [.lit (.int .i64 (-1)), .lit (.int .i64 511)]

/-- 'staithelaw12.EntryChecks': WHATEVER THE INPUT: true; the input reads as it did. -/
def entryChecksSpec : ChangeSpec := { name := "entryChecks", fn := fun _ => fun
  | [d] => { results := [.lit (.bool true)], args := [d] }
  | _ => none }
def entryChecksRow : OpenClaim := { program := "ytmmkdbcgkafolaadoor", sum := "180d51b8c30551e5896decb9c4df9766ef8bd5f0d3d32e3537a587bee1672771", func := "staithe/staithelaw12.EntryChecks", spec := "entryChecks", named := ["staithe/entry.id", "staithe/entry.none", "staithe/entry.maybe"], apart := false, laid := [("staithe/entry.none", laid_staithe_entry_none), ("staithe/entry.id", laid_staithe_entry_id), ("staithe/entry.maybe", laid_staithe_entry_maybe)] }
def EntryChecksSaid : Prop := entryChecksRow.holds Tryd.pinned (OpenSpec.ofChange entryChecksSpec)

/-- ITS FALSE NEIGHBOUR: 'it returns false'. Refute it at one input. -/
def entryChecksWrong : ChangeSpec := { name := "entryChecks", fn := fun _ => fun
  | [d] => { results := [.lit (.bool false)], args := [d] }
  | _ => none }
def EntryChecksWrongFalsely : Prop := entryChecksRow.holds Tryd.pinned (OpenSpec.ofChange entryChecksWrong)

/-- 'staithelaw12.EntryDecodes': WHATEVER THE INPUT: true; the input reads as it did. -/
def entryDecodesSpec : ChangeSpec := { name := "entryDecodes", fn := fun _ => fun
  | [d] => { results := [.lit (.bool true)], args := [d] }
  | _ => none }
def entryDecodesRow : OpenClaim := { program := "ytmmkdbcgkafolaadoor", sum := "180d51b8c30551e5896decb9c4df9766ef8bd5f0d3d32e3537a587bee1672771", func := "staithe/staithelaw12.EntryDecodes", spec := "entryDecodes", named := ["staithe/entry.id", "staithe/entry.none", "staithe/entry.maybe"], apart := false, laid := [("staithe/entry.none", laid_staithe_entry_none), ("staithe/entry.id", laid_staithe_entry_id), ("staithe/entry.maybe", laid_staithe_entry_maybe)] }
def EntryDecodesSaid : Prop := entryDecodesRow.holds Tryd.pinned (OpenSpec.ofChange entryDecodesSpec)

/-- ITS FALSE NEIGHBOUR: 'it returns false'. Refute it at one input. -/
def entryDecodesWrong : ChangeSpec := { name := "entryDecodes", fn := fun _ => fun
  | [d] => { results := [.lit (.bool false)], args := [d] }
  | _ => none }
def EntryDecodesWrongFalsely : Prop := entryDecodesRow.holds Tryd.pinned (OpenSpec.ofChange entryDecodesWrong)

/-- 'staithelaw12.EntryBare': WHATEVER THE INPUT: true; the input reads as it did. -/
def entryBareSpec : ChangeSpec := { name := "entryBare", fn := fun _ => fun
  | [d1, d2] => { results := [.lit (.bool true)], args := [d1, d2] }
  | _ => none }
def entryBareRow : OpenClaim := { program := "ytmmkdbcgkafolaadoor", sum := "180d51b8c30551e5896decb9c4df9766ef8bd5f0d3d32e3537a587bee1672771", func := "staithe/staithelaw12.EntryBare", spec := "entryBare", named := ["staithe/entry.id", "staithe/entry.none", "staithe/entry.maybe"], apart := false, laid := [("staithe/entry.none", laid_staithe_entry_none), ("staithe/entry.id", laid_staithe_entry_id), ("staithe/entry.maybe", laid_staithe_entry_maybe)] }
def EntryBareSaid : Prop := entryBareRow.holds Tryd.pinned (OpenSpec.ofChange entryBareSpec)

/-- ITS FALSE NEIGHBOUR: 'it returns false'. Refute it at one input. -/
def entryBareWrong : ChangeSpec := { name := "entryBare", fn := fun _ => fun
  | [d1, d2] => { results := [.lit (.bool false)], args := [d1, d2] }
  | _ => none }
def EntryBareWrongFalsely : Prop := entryBareRow.holds Tryd.pinned (OpenSpec.ofChange entryBareWrong)

/-- 'staithelaw12.EntryApart': WHATEVER THE INPUT: true; the input reads as it did. -/
def entryApartSpec : ChangeSpec := { name := "entryApart", fn := fun _ => fun
  | [d1, d2] => { results := [.lit (.bool true)], args := [d1, d2] }
  | _ => none }
def entryApartRow : OpenClaim := { program := "ytmmkdbcgkafolaadoor", sum := "180d51b8c30551e5896decb9c4df9766ef8bd5f0d3d32e3537a587bee1672771", func := "staithe/staithelaw12.EntryApart", spec := "entryApart", named := ["staithe/entry.id", "staithe/entry.none", "staithe/entry.maybe"], apart := false, laid := [("staithe/entry.none", laid_staithe_entry_none), ("staithe/entry.id", laid_staithe_entry_id), ("staithe/entry.maybe", laid_staithe_entry_maybe)] }
def EntryApartSaid : Prop := entryApartRow.holds Tryd.pinned (OpenSpec.ofChange entryApartSpec)

/-- ITS FALSE NEIGHBOUR: 'it returns false'. Refute it at one input. -/
def entryApartWrong : ChangeSpec := { name := "entryApart", fn := fun _ => fun
  | [d1, d2] => { results := [.lit (.bool false)], args := [d1, d2] }
  | _ => none }
def EntryApartWrongFalsely : Prop := entryApartRow.holds Tryd.pinned (OpenSpec.ofChange entryApartWrong)

/-- 'staithelaw12.EntryAll': WHATEVER THE INPUT: true; the input reads as it did. -/
def entryAllSpec : ChangeSpec := { name := "entryAll", fn := fun _ => fun
  | [d1, d2] => { results := [.lit (.bool true)], args := [d1, d2] }
  | _ => none }
def entryAllRow : OpenClaim := { program := "ytmmkdbcgkafolaadoor", sum := "180d51b8c30551e5896decb9c4df9766ef8bd5f0d3d32e3537a587bee1672771", func := "staithe/staithelaw12.EntryAll", spec := "entryAll", inPlace := ["internal/abi.NoEscape"], named := ["staithe/entry.id", "staithe/entry.none", "staithe/entry.maybe"], apart := false, laid := [("staithe/entry.none", laid_staithe_entry_none), ("staithe/entry.id", laid_staithe_entry_id), ("staithe/entry.maybe", laid_staithe_entry_maybe)] }
def EntryAllSaid : Prop := entryAllRow.holds Tryd.pinned (OpenSpec.ofChange entryAllSpec)

/-- ITS FALSE NEIGHBOUR: 'it returns false'. Refute it at one input. -/
def entryAllWrong : ChangeSpec := { name := "entryAll", fn := fun _ => fun
  | [d1, d2] => { results := [.lit (.bool false)], args := [d1, d2] }
  | _ => none }
def EntryAllWrongFalsely : Prop := entryAllRow.holds Tryd.pinned (OpenSpec.ofChange entryAllWrong)

/-- 'staithelaw12.EntryBack': WHATEVER THE INPUT: true; the input reads as it did. -/
def entryBackSpec : ChangeSpec := { name := "entryBack", fn := fun _ => fun
  | [d1, d2] => { results := [.lit (.bool true)], args := [d1, d2] }
  | _ => none }
def entryBackRow : OpenClaim := { program := "ytmmkdbcgkafolaadoor", sum := "180d51b8c30551e5896decb9c4df9766ef8bd5f0d3d32e3537a587bee1672771", func := "staithe/staithelaw12.EntryBack", spec := "entryBack", inPlace := ["internal/abi.NoEscape"], named := ["staithe/entry.id", "staithe/entry.none", "staithe/entry.maybe"], apart := false, laid := [("staithe/entry.none", laid_staithe_entry_none), ("staithe/entry.id", laid_staithe_entry_id), ("staithe/entry.maybe", laid_staithe_entry_maybe)] }
def EntryBackSaid : Prop := entryBackRow.holds Tryd.pinned (OpenSpec.ofChange entryBackSpec)

/-- ITS FALSE NEIGHBOUR: 'it returns false'. Refute it at one input. -/
def entryBackWrong : ChangeSpec := { name := "entryBack", fn := fun _ => fun
  | [d1, d2] => { results := [.lit (.bool false)], args := [d1, d2] }
  | _ => none }
def EntryBackWrongFalsely : Prop := entryBackRow.holds Tryd.pinned (OpenSpec.ofChange entryBackWrong)

/- THE SECOND FORM. 'bulk': how many values and letters a reading holds, each counted each time it is reached (what is shared counts as often as it is met; a slice's spare places count too). A statement '..UptoSaid' is the law's where the arguments, and the package variables that the reading takes, are together of bulk at most 1048576: NARROWER than '..Said'. Prove '..Said' where nothing that the law and all that it calls make is longer than what came in: it says more and counts as full. Else prove '..UptoSaid'. A law counts once. -/
mutual
def uptoBulk {H : Type} : DataW H → Nat
  | .lit (.string bytes) => bytes.length + 1
  | .lit _ => 1
  | .nil => 1
  | .ptr d => uptoBulk d + 1
  | .slice elems spare => uptoBulkAll elems + uptoBulkAll spare + 1
  | .agg parts => uptoBulkAll parts + 1
  | .iface _ d => uptoBulk d + 1
  | .map entries => uptoBulkEntries entries + 1
  | .held _ => 1
def uptoBulkAll {H : Type} : List (DataW H) → Nat
  | [] => 0
  | d :: r => uptoBulk d + uptoBulkAll r
def uptoBulkEntries {H : Type} : List (Lit × DataW H) → Nat
  | [] => 0
  | x :: r => uptoBulkEntry x + uptoBulkEntries r
def uptoBulkEntry {H : Type} : Lit × DataW H → Nat
  | (.string bytes, d) => bytes.length + uptoBulk d + 1
  | (_, d) => uptoBulk d + 1
 end
def uptoSmall : (H : Type) → List (DataW H) → Bool := fun _ ds => decide (uptoBulkAll ds ≤ 1048576)
def OpenSpec.upto (s : _root_.Go.ChangeSpec) : _root_.Go.OpenSpec := { _root_.Go.OpenSpec.ofChange s with cond := some uptoSmall }

/-- 'staithelaw12.EntryChecks', WHERE WHAT IT READS IS OF BULK AT MOST 1048576: true; the input reads as it did. -/
def entryChecksUptoRow : OpenClaim := { program := "ytmmkdbcgkafolaadoor", sum := "180d51b8c30551e5896decb9c4df9766ef8bd5f0d3d32e3537a587bee1672771", func := "staithe/staithelaw12.EntryChecks", spec := "entryChecks", named := ["staithe/entry.id", "staithe/entry.none", "staithe/entry.maybe"], apart := false, laid := [("staithe/entry.none", laid_staithe_entry_none), ("staithe/entry.id", laid_staithe_entry_id), ("staithe/entry.maybe", laid_staithe_entry_maybe)], narrowed := true }
def EntryChecksUptoSaid : Prop := entryChecksUptoRow.holds Tryd.pinned (OpenSpec.upto entryChecksSpec)

/-- 'staithelaw12.EntryDecodes', WHERE WHAT IT READS IS OF BULK AT MOST 1048576: true; the input reads as it did. -/
def entryDecodesUptoRow : OpenClaim := { program := "ytmmkdbcgkafolaadoor", sum := "180d51b8c30551e5896decb9c4df9766ef8bd5f0d3d32e3537a587bee1672771", func := "staithe/staithelaw12.EntryDecodes", spec := "entryDecodes", named := ["staithe/entry.id", "staithe/entry.none", "staithe/entry.maybe"], apart := false, laid := [("staithe/entry.none", laid_staithe_entry_none), ("staithe/entry.id", laid_staithe_entry_id), ("staithe/entry.maybe", laid_staithe_entry_maybe)], narrowed := true }
def EntryDecodesUptoSaid : Prop := entryDecodesUptoRow.holds Tryd.pinned (OpenSpec.upto entryDecodesSpec)

/-- 'staithelaw12.EntryBare', WHERE WHAT IT READS IS OF BULK AT MOST 1048576: true; the input reads as it did. -/
def entryBareUptoRow : OpenClaim := { program := "ytmmkdbcgkafolaadoor", sum := "180d51b8c30551e5896decb9c4df9766ef8bd5f0d3d32e3537a587bee1672771", func := "staithe/staithelaw12.EntryBare", spec := "entryBare", named := ["staithe/entry.id", "staithe/entry.none", "staithe/entry.maybe"], apart := false, laid := [("staithe/entry.none", laid_staithe_entry_none), ("staithe/entry.id", laid_staithe_entry_id), ("staithe/entry.maybe", laid_staithe_entry_maybe)], narrowed := true }
def EntryBareUptoSaid : Prop := entryBareUptoRow.holds Tryd.pinned (OpenSpec.upto entryBareSpec)

/-- 'staithelaw12.EntryApart', WHERE WHAT IT READS IS OF BULK AT MOST 1048576: true; the input reads as it did. -/
def entryApartUptoRow : OpenClaim := { program := "ytmmkdbcgkafolaadoor", sum := "180d51b8c30551e5896decb9c4df9766ef8bd5f0d3d32e3537a587bee1672771", func := "staithe/staithelaw12.EntryApart", spec := "entryApart", named := ["staithe/entry.id", "staithe/entry.none", "staithe/entry.maybe"], apart := false, laid := [("staithe/entry.none", laid_staithe_entry_none), ("staithe/entry.id", laid_staithe_entry_id), ("staithe/entry.maybe", laid_staithe_entry_maybe)], narrowed := true }
def EntryApartUptoSaid : Prop := entryApartUptoRow.holds Tryd.pinned (OpenSpec.upto entryApartSpec)

/-- 'staithelaw12.EntryAll', WHERE WHAT IT READS IS OF BULK AT MOST 1048576: true; the input reads as it did. -/
def entryAllUptoRow : OpenClaim := { program := "ytmmkdbcgkafolaadoor", sum := "180d51b8c30551e5896decb9c4df9766ef8bd5f0d3d32e3537a587bee1672771", func := "staithe/staithelaw12.EntryAll", spec := "entryAll", inPlace := ["internal/abi.NoEscape"], named := ["staithe/entry.id", "staithe/entry.none", "staithe/entry.maybe"], apart := false, laid := [("staithe/entry.none", laid_staithe_entry_none), ("staithe/entry.id", laid_staithe_entry_id), ("staithe/entry.maybe", laid_staithe_entry_maybe)], narrowed := true }
def EntryAllUptoSaid : Prop := entryAllUptoRow.holds Tryd.pinned (OpenSpec.upto entryAllSpec)

/-- 'staithelaw12.EntryBack', WHERE WHAT IT READS IS OF BULK AT MOST 1048576: true; the input reads as it did. -/
def entryBackUptoRow : OpenClaim := { program := "ytmmkdbcgkafolaadoor", sum := "180d51b8c30551e5896decb9c4df9766ef8bd5f0d3d32e3537a587bee1672771", func := "staithe/staithelaw12.EntryBack", spec := "entryBack", inPlace := ["internal/abi.NoEscape"], named := ["staithe/entry.id", "staithe/entry.none", "staithe/entry.maybe"], apart := false, laid := [("staithe/entry.none", laid_staithe_entry_none), ("staithe/entry.id", laid_staithe_entry_id), ("staithe/entry.maybe", laid_staithe_entry_maybe)], narrowed := true }
def EntryBackUptoSaid : Prop := entryBackUptoRow.holds Tryd.pinned (OpenSpec.upto entryBackSpec)

end Rows
end Go.Proofs.YtmmkdbcgkafolaaDoor
