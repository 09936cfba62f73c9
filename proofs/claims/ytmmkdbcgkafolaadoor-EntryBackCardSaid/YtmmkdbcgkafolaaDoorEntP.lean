
/-
  Which events are right, in plain words.
-/
import Derived.Test.YtmmkdbcgkafolaaDoorEntA
namespace Go.Proofs.YtmmkdbcgkafolaaDoor
set_option linter.unusedVariables false
set_option linter.unusedSimpArgs false

/-! ### What is right -/
def inB (p : Int × Int) (n : Int) : Bool := decide (p.1 ≤ n ∧ n ≤ p.2)
/-- The span and the field of place k (from 1 on). -/
def spanAt (e : Ev) : Nat → Int × Int
  | 1 => (shp e.kind).a
  | 2 => (shp e.kind).b
  | 3 => (shp e.kind).c
  | _ => (shp e.kind).d
def fieldAt (e : Ev) : Nat → Int
  | 0 => e.g
  | 1 => e.ch
  | 2 => e.cs
  | 3 => e.va
  | _ => e.ma
def pre0 (e : Ev) : Bool := inB (if e.kind = 13 then (-1, -1) else (0, 511)) e.g && ((shp e.kind).s || !e.sd) && ((shp e.kind).o || !e.ok) && !oddB e
/-- What is known behind k rounds. -/
def preB (e : Ev) : Nat → Bool
  | 0 => pre0 e
  | 1 => pre0 e
  | k + 2 => preB e (k + 1) && inB (spanAt e (k + 1)) (fieldAt e (k + 1))
def okB (e : Ev) : Bool := preB e 5
def chk (e : Ev) : Int := if e.kind < 1 ∨ 13 < e.kind then 1 else if okB e then 0 else 4


end Go.Proofs.YtmmkdbcgkafolaaDoor

