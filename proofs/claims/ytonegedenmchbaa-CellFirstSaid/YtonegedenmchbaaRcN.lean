
/-
  staitheref18.New.
-/
import Derived.Test.YtonegedenmchbaaRcD
namespace Go.Proofs.Ytonegedenmchbaa
open Go.RowKit
set_option linter.unusedVariables false
set_option linter.unusedSimpArgs false
set_option maxRecDepth 100000

def zero18 : List Value := (List.range 261).map (cv18 ⟨0, 0, false, false, zeroR, false⟩)
theorem info18 : (Try.prog.info? 92).map (fun i => (i.zero, i.size)) = some (some (.agg zero18.toArray), 261) := by kernel_rfl
theorem zero18_at {i : Nat} (hi : i < 261) : zero18[i]? = some (cv18 ⟨0, 0, false, false, zeroR, false⟩ i) := by
  unfold zero18
  rw [List.getElem?_map, List.getElem?_range hi]
  rfl
theorem r18_new {w : World} {Z : Array Value} (hZ : zero18.toArray = Z) (t : TypeId) : R18 (w.alloc (.cells ((((Z.setIfInBounds 0 (.int .i64 0)).setIfInBounds 1 (.int .i64 0)).setIfInBounds 2 (.bool true)).setIfInBounds 3 (.bool false)) t)) w.heap.size 0 ⟨0, 0, true, false, zeroR, false⟩ := by
  subst hZ
  refine ⟨zeroK_len _ _, fun i hi => ?_, fun i => by simp only [World.frozen?, heap_alloc_new]; simp⟩
  have hs : zero18.length = 261 := by simp [zero18]
  have key : ((((zero18.toArray.setIfInBounds 0 (.int .i64 0)).setIfInBounds 1 (.int .i64 0)).setIfInBounds 2 (.bool true)).setIfInBounds 3 (.bool false))[i]? = some (cv18 ⟨0, 0, true, false, zeroR, false⟩ i) := by
    rw [Array.getElem?_setIfInBounds, Array.getElem?_setIfInBounds, Array.getElem?_setIfInBounds, Array.getElem?_setIfInBounds]
    simp only [Array.size_setIfInBounds, List.size_toArray, hs]
    by_cases h3 : i = 3
    · subst h3; rfl
    · by_cases h2 : i = 2
      · subst h2; rfl
      · by_cases h1 : i = 1
        · subst h1; rfl
        · by_cases h0 : i = 0
          · subst h0; rfl
          · rw [if_neg (Ne.symm h3), if_neg (Ne.symm h2), if_neg (Ne.symm h1), if_neg (Ne.symm h0), List.getElem?_toArray, zero18_at hi]
            simp [cv18, h0, h1, h2, h3]
  simp only [World.cell?, heap_alloc_new, Nat.zero_add]
  simpa using key
theorem rnew_any (w : World) : Calls Try.prog 21 #[] w fun r w' => ∃ c, r = .returned (.pointer (some ⟨c, 0, none⟩)) ∧ R18 w' c 0 ⟨0, 0, true, false, zeroR, false⟩ ∧ (∃ cur, w'.heap[c]? = some (.cells cur 92 (0, 0))) ∧ w.heap.size ≤ c ∧ Below w.heap.size w w' := by
  obtain ⟨Z, hZ⟩ : ∃ Z, zero18.toArray = Z := ⟨_, rfl⟩
  have hz := (zero_of_info info18).1
  rw [hZ] at hz
  have hs : Z.size = 261 := by rw [← hZ]; simp [zero18]
  have hs2 : ¬ (Z.size < 4) := by omega
  have hs3 : (4 : Nat) ≤ Z.size := by omega
  have HZ := Lib.hid hZ
  have T := Lib.hid (r18_new (w := w) hZ 92)
  clear hZ hs
  go_enter Try.func21, Try.ntmps21
  go_wp2_with fail
  go_ret
  exact ⟨w.heap.size, rfl, T.out, ⟨_, heap_alloc_new w _⟩, Nat.le_refl _, (Below.refl _ _).alloc (Nat.le_refl _) _⟩
end Go.Proofs.Ytonegedenmchbaa

