/-
  No cell of these rows narrows 'for every input' (looked for: loops, veiled, ifaces, maps, wideKeys, modest, calm, conditions, laid).
  DERIVED. THE GIVEN ROWS OF THIS SEAT. 7 by the template 'for every input the law returns true; each argument reads behind the call as it read before'; 0 by the template 'total and deterministic' (their statements: YtdlaokfmelokeaaTotals.lean).
  GIVEN WITH THE SEED: the statements are not yours to turn. If you find one false, say at which input.
  Laid BY PROGRAM, IN A SANDBOX (cutbox-rows.mjs): the forced cells as the released guide's own fill.sh prints them over the translation 29f9823e2b5766a0… (all of the seat's roots in one cut). By AI agents, Wed Nov 11 2026. No macro, syntax, notation, axiom, sorry.
-/
import Derived.Test.YtdlaokfmelokeaaChecked
import GoSem.Claim
import GoSem.ClaimJoined
import GoSem.ClaimMapViews
import Derived.JoinedTies
import Derived.KernelRfl
namespace Go.Proofs.Ytdlaokfmelokeaa
/- THE CELL 'sum', in the pinned program and in every row, IS THE sha256 OF THE DUMP (.gsa) THAT YtdlaokfmelokeaaProg.lean LOADS. Nothing in Lean hashes anything: it is a label: what it is worth is what the hold of that sum in a sandbox is worth. -/
noncomputable def Try.pinned : Pinned := { name := "ytdlaokfmelokeaa", sum := "29f9823e2b5766a0d659e7478991712d80dbb16d7235f2331dfa3483f251b6af", checked := Try.checked }
namespace Rows
def none {H : Type} : Left H := { results := [], args := [] }

/-- 'staithelaw01.EpochPacks': WHATEVER THE INPUT: true; the input reads as it did. -/
def epochPacksSpec : ChangeSpec := { name := "epochPacks", fn := fun _ => fun
  | [d1, d2] => { results := [.lit (.bool true)], args := [d1, d2] }
  | _ => none }
def epochPacksRow : OpenClaim := { program := "ytdlaokfmelokeaa", sum := "29f9823e2b5766a0d659e7478991712d80dbb16d7235f2331dfa3483f251b6af", func := "staithe/staithelaw01.EpochPacks", spec := "epochPacks", unfollowed := true, recurses := true, apart := false }
def EpochPacksSaid : Prop := epochPacksRow.holds Try.pinned (OpenSpec.ofChange epochPacksSpec)

/-- ITS FALSE NEIGHBOUR: 'it returns false'. Refute it at one input. -/
def epochPacksWrong : ChangeSpec := { name := "epochPacks", fn := fun _ => fun
  | [d1, d2] => { results := [.lit (.bool false)], args := [d1, d2] }
  | _ => none }
def EpochPacksWrongFalsely : Prop := epochPacksRow.holds Try.pinned (OpenSpec.ofChange epochPacksWrong)

/-- 'staithelaw01.EpochApart': WHATEVER THE INPUT: true; the input reads as it did. -/
def epochApartSpec : ChangeSpec := { name := "epochApart", fn := fun _ => fun
  | [d1, d2] => { results := [.lit (.bool true)], args := [d1, d2] }
  | _ => none }
def epochApartRow : OpenClaim := { program := "ytdlaokfmelokeaa", sum := "29f9823e2b5766a0d659e7478991712d80dbb16d7235f2331dfa3483f251b6af", func := "staithe/staithelaw01.EpochApart", spec := "epochApart", unfollowed := true, recurses := true, apart := false }
def EpochApartSaid : Prop := epochApartRow.holds Try.pinned (OpenSpec.ofChange epochApartSpec)

/-- ITS FALSE NEIGHBOUR: 'it returns false'. Refute it at one input. -/
def epochApartWrong : ChangeSpec := { name := "epochApart", fn := fun _ => fun
  | [d1, d2] => { results := [.lit (.bool false)], args := [d1, d2] }
  | _ => none }
def EpochApartWrongFalsely : Prop := epochApartRow.holds Try.pinned (OpenSpec.ofChange epochApartWrong)

/-- 'staithelaw01.EpochRises': WHATEVER THE INPUT: true; the input reads as it did. -/
def epochRisesSpec : ChangeSpec := { name := "epochRises", fn := fun _ => fun
  | [d1, d2] => { results := [.lit (.bool true)], args := [d1, d2] }
  | _ => none }
def epochRisesRow : OpenClaim := { program := "ytdlaokfmelokeaa", sum := "29f9823e2b5766a0d659e7478991712d80dbb16d7235f2331dfa3483f251b6af", func := "staithe/staithelaw01.EpochRises", spec := "epochRises", unfollowed := true, recurses := true, apart := false }
def EpochRisesSaid : Prop := epochRisesRow.holds Try.pinned (OpenSpec.ofChange epochRisesSpec)

/-- ITS FALSE NEIGHBOUR: 'it returns false'. Refute it at one input. -/
def epochRisesWrong : ChangeSpec := { name := "epochRises", fn := fun _ => fun
  | [d1, d2] => { results := [.lit (.bool false)], args := [d1, d2] }
  | _ => none }
def EpochRisesWrongFalsely : Prop := epochRisesRow.holds Try.pinned (OpenSpec.ofChange epochRisesWrong)

/-- 'staithelaw01.EpochSeen': WHATEVER THE INPUT: true; the input reads as it did. -/
def epochSeenSpec : ChangeSpec := { name := "epochSeen", fn := fun _ => fun
  | [d1, d2] => { results := [.lit (.bool true)], args := [d1, d2] }
  | _ => none }
def epochSeenRow : OpenClaim := { program := "ytdlaokfmelokeaa", sum := "29f9823e2b5766a0d659e7478991712d80dbb16d7235f2331dfa3483f251b6af", func := "staithe/staithelaw01.EpochSeen", spec := "epochSeen", unfollowed := true, recurses := true, apart := false }
def EpochSeenSaid : Prop := epochSeenRow.holds Try.pinned (OpenSpec.ofChange epochSeenSpec)

/-- ITS FALSE NEIGHBOUR: 'it returns false'. Refute it at one input. -/
def epochSeenWrong : ChangeSpec := { name := "epochSeen", fn := fun _ => fun
  | [d1, d2] => { results := [.lit (.bool false)], args := [d1, d2] }
  | _ => none }
def EpochSeenWrongFalsely : Prop := epochSeenRow.holds Try.pinned (OpenSpec.ofChange epochSeenWrong)

/-- 'staithelaw01.EpochNext': WHATEVER THE INPUT: true; the input reads as it did. -/
def epochNextSpec : ChangeSpec := { name := "epochNext", fn := fun _ => fun
  | [d1, d2] => { results := [.lit (.bool true)], args := [d1, d2] }
  | _ => none }
def epochNextRow : OpenClaim := { program := "ytdlaokfmelokeaa", sum := "29f9823e2b5766a0d659e7478991712d80dbb16d7235f2331dfa3483f251b6af", func := "staithe/staithelaw01.EpochNext", spec := "epochNext", unfollowed := true, recurses := true, apart := false }
def EpochNextSaid : Prop := epochNextRow.holds Try.pinned (OpenSpec.ofChange epochNextSpec)

/-- ITS FALSE NEIGHBOUR: 'it returns false'. Refute it at one input. -/
def epochNextWrong : ChangeSpec := { name := "epochNext", fn := fun _ => fun
  | [d1, d2] => { results := [.lit (.bool false)], args := [d1, d2] }
  | _ => none }
def EpochNextWrongFalsely : Prop := epochNextRow.holds Try.pinned (OpenSpec.ofChange epochNextWrong)

/-- 'staithelaw01.EpochLess': WHATEVER THE INPUT: true; the input reads as it did. -/
def epochLessSpec : ChangeSpec := { name := "epochLess", fn := fun _ => fun
  | [d1, d2] => { results := [.lit (.bool true)], args := [d1, d2] }
  | _ => none }
def epochLessRow : OpenClaim := { program := "ytdlaokfmelokeaa", sum := "29f9823e2b5766a0d659e7478991712d80dbb16d7235f2331dfa3483f251b6af", func := "staithe/staithelaw01.EpochLess", spec := "epochLess", unfollowed := true, recurses := true, apart := false }
def EpochLessSaid : Prop := epochLessRow.holds Try.pinned (OpenSpec.ofChange epochLessSpec)

/-- ITS FALSE NEIGHBOUR: 'it returns false'. Refute it at one input. -/
def epochLessWrong : ChangeSpec := { name := "epochLess", fn := fun _ => fun
  | [d1, d2] => { results := [.lit (.bool false)], args := [d1, d2] }
  | _ => none }
def EpochLessWrongFalsely : Prop := epochLessRow.holds Try.pinned (OpenSpec.ofChange epochLessWrong)

/-- 'staithelaw01.EpochReads': WHATEVER THE INPUT: true; the input reads as it did. -/
def epochReadsSpec : ChangeSpec := { name := "epochReads", fn := fun _ => fun
  | [d] => { results := [.lit (.bool true)], args := [d] }
  | _ => none }
def epochReadsRow : OpenClaim := { program := "ytdlaokfmelokeaa", sum := "29f9823e2b5766a0d659e7478991712d80dbb16d7235f2331dfa3483f251b6af", func := "staithe/staithelaw01.EpochReads", spec := "epochReads", unfollowed := true, recurses := true, apart := false }
def EpochReadsSaid : Prop := epochReadsRow.holds Try.pinned (OpenSpec.ofChange epochReadsSpec)

/-- ITS FALSE NEIGHBOUR: 'it returns false'. Refute it at one input. -/
def epochReadsWrong : ChangeSpec := { name := "epochReads", fn := fun _ => fun
  | [d] => { results := [.lit (.bool false)], args := [d] }
  | _ => none }
def EpochReadsWrongFalsely : Prop := epochReadsRow.holds Try.pinned (OpenSpec.ofChange epochReadsWrong)

/- THE SECOND FORM. 'bulk': how many values and letters a reading holds, each counted each time it is reached (what is shared counts as often as it is met; a slice's spare places count too). A statement '..UptoSaid' is the law's where the arguments, and the package variables that the reading takes, are together of bulk at most 1048576: NARROWER than '..Said'. Prove '..Said' where nothing that the law and all that it calls make is longer than what came in: it says more and counts as full. Else prove '..UptoSaid'. A law counts once. -/
mutual
def uptoBulk {H : Type} : DataW H → Nat
  | .lit (.string bytes) => bytes.length + 1
  | .lit _ => 1
  | .nil => 1
  | .ptr d => uptoBulk d + 1
  | .slice elems spare => uptoBulkAll elems + uptoBulkAll spare + 1
  | .agg parts => uptoBulkAll parts + 1
  | .iface _ d => uptoBulk d + 1
  | .map entries => uptoBulkEntries entries + 1
  | .held _ => 1
def uptoBulkAll {H : Type} : List (DataW H) → Nat
  | [] => 0
  | d :: r => uptoBulk d + uptoBulkAll r
def uptoBulkEntries {H : Type} : List (Lit × DataW H) → Nat
  | [] => 0
  | x :: r => uptoBulkEntry x + uptoBulkEntries r
def uptoBulkEntry {H : Type} : Lit × DataW H → Nat
  | (.string bytes, d) => bytes.length + uptoBulk d + 1
  | (_, d) => uptoBulk d + 1
 end
def uptoSmall : (H : Type) → List (DataW H) → Bool := fun _ ds => decide (uptoBulkAll ds ≤ 1048576)
def OpenSpec.upto (s : _root_.Go.ChangeSpec) : _root_.Go.OpenSpec := { _root_.Go.OpenSpec.ofChange s with cond := some uptoSmall }

/-- 'staithelaw01.EpochPacks', WHERE WHAT IT READS IS OF BULK AT MOST 1048576: true; the input reads as it did. -/
def epochPacksUptoRow : OpenClaim := { program := "ytdlaokfmelokeaa", sum := "29f9823e2b5766a0d659e7478991712d80dbb16d7235f2331dfa3483f251b6af", func := "staithe/staithelaw01.EpochPacks", spec := "epochPacks", unfollowed := true, recurses := true, apart := false, narrowed := true }
def EpochPacksUptoSaid : Prop := epochPacksUptoRow.holds Try.pinned (OpenSpec.upto epochPacksSpec)

/-- 'staithelaw01.EpochApart', WHERE WHAT IT READS IS OF BULK AT MOST 1048576: true; the input reads as it did. -/
def epochApartUptoRow : OpenClaim := { program := "ytdlaokfmelokeaa", sum := "29f9823e2b5766a0d659e7478991712d80dbb16d7235f2331dfa3483f251b6af", func := "staithe/staithelaw01.EpochApart", spec := "epochApart", unfollowed := true, recurses := true, apart := false, narrowed := true }
def EpochApartUptoSaid : Prop := epochApartUptoRow.holds Try.pinned (OpenSpec.upto epochApartSpec)

/-- 'staithelaw01.EpochRises', WHERE WHAT IT READS IS OF BULK AT MOST 1048576: true; the input reads as it did. -/
def epochRisesUptoRow : OpenClaim := { program := "ytdlaokfmelokeaa", sum := "29f9823e2b5766a0d659e7478991712d80dbb16d7235f2331dfa3483f251b6af", func := "staithe/staithelaw01.EpochRises", spec := "epochRises", unfollowed := true, recurses := true, apart := false, narrowed := true }
def EpochRisesUptoSaid : Prop := epochRisesUptoRow.holds Try.pinned (OpenSpec.upto epochRisesSpec)

/-- 'staithelaw01.EpochSeen', WHERE WHAT IT READS IS OF BULK AT MOST 1048576: true; the input reads as it did. -/
def epochSeenUptoRow : OpenClaim := { program := "ytdlaokfmelokeaa", sum := "29f9823e2b5766a0d659e7478991712d80dbb16d7235f2331dfa3483f251b6af", func := "staithe/staithelaw01.EpochSeen", spec := "epochSeen", unfollowed := true, recurses := true, apart := false, narrowed := true }
def EpochSeenUptoSaid : Prop := epochSeenUptoRow.holds Try.pinned (OpenSpec.upto epochSeenSpec)

/-- 'staithelaw01.EpochNext', WHERE WHAT IT READS IS OF BULK AT MOST 1048576: true; the input reads as it did. -/
def epochNextUptoRow : OpenClaim := { program := "ytdlaokfmelokeaa", sum := "29f9823e2b5766a0d659e7478991712d80dbb16d7235f2331dfa3483f251b6af", func := "staithe/staithelaw01.EpochNext", spec := "epochNext", unfollowed := true, recurses := true, apart := false, narrowed := true }
def EpochNextUptoSaid : Prop := epochNextUptoRow.holds Try.pinned (OpenSpec.upto epochNextSpec)

/-- 'staithelaw01.EpochLess', WHERE WHAT IT READS IS OF BULK AT MOST 1048576: true; the input reads as it did. -/
def epochLessUptoRow : OpenClaim := { program := "ytdlaokfmelokeaa", sum := "29f9823e2b5766a0d659e7478991712d80dbb16d7235f2331dfa3483f251b6af", func := "staithe/staithelaw01.EpochLess", spec := "epochLess", unfollowed := true, recurses := true, apart := false, narrowed := true }
def EpochLessUptoSaid : Prop := epochLessUptoRow.holds Try.pinned (OpenSpec.upto epochLessSpec)

/-- 'staithelaw01.EpochReads', WHERE WHAT IT READS IS OF BULK AT MOST 1048576: true; the input reads as it did. -/
def epochReadsUptoRow : OpenClaim := { program := "ytdlaokfmelokeaa", sum := "29f9823e2b5766a0d659e7478991712d80dbb16d7235f2331dfa3483f251b6af", func := "staithe/staithelaw01.EpochReads", spec := "epochReads", unfollowed := true, recurses := true, apart := false, narrowed := true }
def EpochReadsUptoSaid : Prop := epochReadsUptoRow.holds Try.pinned (OpenSpec.upto epochReadsSpec)

end Rows
end Go.Proofs.Ytdlaokfmelokeaa
