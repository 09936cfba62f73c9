
/-
  Lists of numbers put as bytes: reel.PutList and staitheref03.PutList.
-/
import Derived.Test.YtobgdchlblhaiaaList
import Derived.Test.YtobgdchlblhaiaaBldS
namespace Go.Proofs.Ytobgdchlblhaiaa
open Go.RowKit
set_option linter.unusedVariables false
set_option linter.unusedSimpArgs false
set_option maxRecDepth 100000

def allOk (l : List Int) : Bool := l.all fun n => okN n
def flat (l : List Int) : List UInt8 := l.flatMap putS
def putLS (l : List Int) : List UInt8 := if allOk l then putS l.length ++ flat l else []
def putLE (l : List Int) : Int := if allOk l then 0 else 1

theorem putS_len (n : Int) : (putS n).length ≤ 7 := by
  unfold putS
  split
  · rename_i h
    rw [length_enc]
    unfold sizeN
    split
    · omega
    · have := nby_most (n := n.toNat) (by unfold okN at h; simp at h; unfold mostN; omega)
      omega
  · simp
theorem flat_len (l : List Int) : (flat l).length ≤ 7 * l.length := by
  induction l with
  | nil => simp [flat]
  | cons a l ih =>
    have := putS_len a
    simp only [flat, List.flatMap_cons, List.length_append, List.length_cons] at ih ⊢
    omega
theorem flat_snoc (l : List Int) (k : Nat) (h : k < l.length) : flat (l.take (k + 1)) = flat (l.take k) ++ putS (l.getD k 0) := by
  have e : l.take (k + 1) = l.take k ++ [l.getD k 0] := by rw [List.take_add_one]; simp [List.getD, h]
  rw [flat, e, List.flatMap_append]
  simp [flat]
theorem putS_head (k : Nat) (h : k ≤ 1000000) : putS k ≠ [] := by
  have hk : okN (k : Int) = true := by simp [okN]; omega
  unfold putS
  rw [if_pos hk]
  intro e
  have := congrArg List.length e
  rw [length_enc] at this
  unfold sizeN at this
  split at this
  · simp at this
  · simp at this
theorem allOk_bad {l : List Int} {k : Nat} (h : k < l.length) (hb : okN (l.getD k 0) = false) : allOk l = false := by
  unfold allOk
  rw [List.all_eq_false]
  refine ⟨l[k], List.getElem_mem h, ?_⟩
  simpa [List.getD, h] using hb
theorem allOk_of {l : List Int} (h : ∀ j, j < l.length → okN (l.getD j 0) = true) : allOk l = true := by
  unfold allOk
  rw [List.all_eq_true]
  intro x hx
  obtain ⟨i, hi, rfl⟩ := List.mem_iff_getElem.1 hx
  have := h i hi
  simpa [List.getD, hi] using this

end Go.Proofs.Ytobgdchlblhaiaa

