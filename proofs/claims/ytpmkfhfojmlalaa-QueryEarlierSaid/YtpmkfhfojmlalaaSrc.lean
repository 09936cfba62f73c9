
/-
  Slices of whole numbers, for programs without package clock.
-/
import Derived.Test.YtpmkfhfojmlalaaProg
import Derived.WalkKit
import Derived.WalkSpells
import Derived.KernelRfl
import Derived.Lib.Hide
import Derived.ChangeSlices
import Derived.OpenShut
import Derived.WideShapes
import Derived.Below
namespace Go.Proofs.Ytpmkfhfojmlalaa
open Go.RowKit
set_option linter.unusedVariables false
set_option linter.unusedSimpArgs false

def ints (l : List Int) : List Value := l.map (Value.int .i64)
theorem length_ints (l : List Int) : (ints l).length = l.length := by simp [ints]
theorem ints_append (l m : List Int) : ints (l ++ m) = ints l ++ ints m := by simp [ints]
theorem getElem?_ints (l : List Int) (i : Nat) (h : i < l.length) : (ints l)[i]? = some (.int .i64 (l.getD i 0)) := by
  simp [ints, h]

/-- A list's number at a place; 0 beside it. -/
def at0 (l : List Int) (t : Int) : Int := if 0 ≤ t then l.getD t.toNat 0 else 0
theorem at0_out {l : List Int} {t : Int} (h : t < 0 ∨ (l.length : Int) ≤ t) : at0 l t = 0 := by
  unfold at0
  split
  · have : l.length ≤ t.toNat := by omega
    simp [List.getD, this]
  · rfl
theorem at0_nat (l : List Int) (t : Nat) : at0 l t = l.getD t 0 := by simp [at0]

theorem lt_of_heap {w : World} {b : Nat} {o : Obj} (h : w.heap[b]? = some o) : b < w.heap.size := by
  rcases Nat.lt_or_ge b w.heap.size with h1 | h1
  · exact h1
  · rw [Array.getElem?_eq_none h1] at h; cases h
/-- A slice value that reads as these numbers. -/
def Src (w : World) (v : Value) (l : List Int) : Prop :=
  ∃ ao cap, v = .slice ao l.length cap ∧ (ao = none → l.length = 0 ∧ cap = 0) ∧ (0 < l.length → ∃ g z, ao = some ⟨g, z, none⟩ ∧ ∀ j, j < l.length → w.cell? ⟨g, z + j, none⟩ = some (.int .i64 (l.getD j 0)))
theorem Src.below {w w' : World} {v : Value} {l : List Int} (h : Src w v l) {n : Nat} (hn : w.heap.size ≤ n) (hB : Below n w w') : Src w' v l := by
  obtain ⟨ao, cap, rfl, h1, h2⟩ := h
  refine ⟨ao, cap, rfl, h1, fun hp => ?_⟩
  obtain ⟨g, z, rfl, h3⟩ := h2 hp
  exact ⟨g, z, rfl, fun j hj => by rw [hB.cell (p := ⟨g, z + j, none⟩) (Nat.lt_of_lt_of_le (block_lt_of_cell (h3 j hj)) hn)]; exact h3 j hj⟩

theorem Src.nil (w : World) : Src w (.slice none 0 0) [] := ⟨none, 0, rfl, fun _ => ⟨rfl, rfl⟩, fun h => by simp at h⟩
theorem size_alloc (w : World) (o : Obj) : (w.alloc o).heap.size = w.heap.size + 1 := by simp
theorem below_trans {n m : Nat} {w w1 w2 : World} (h : Below n w w1) (h2 : Below m w1 w2) (hm : n ≤ m) : Below n w w2 := h.trans (h2.mono hm)

theorem src_arg {H : Type} {enc : TypeId × Value → H} {W : World} {base b0 : Nat} {spare : Nat → Bool} {held : Bool} {v : Value} {d : DataW H} {ps : List MemPlace}
    (hval : Value.okWide Try.prog W .any b0 53 v) (h : DataW.Trod enc Try.prog W base spare held 53 v d ps) : ∃ l, Src W v l := by
  obtain ⟨a0, len, cap, rfl⟩ := Go.WideShapes.okWide_slice Try.underlying53 hval
  obtain ⟨fuel, hf⟩ := h
  rcases Go.ChangeShapes.open_ints Try.underlying53 Try.underlying3 (by kernel_rfl) hf with ⟨hcs, _⟩ | ⟨a, len', cap', zs, hcs, _, hle, _, hall, _, hcell, _⟩
  · simp [Value.cells] at hcs
    obtain ⟨rfl, rfl, rfl⟩ := hcs
    exact ⟨[], Src.nil W⟩
  · simp [Value.cells] at hcs
    obtain ⟨rfl, rfl, rfl⟩ := hcs
    have hz : len ≤ zs.length := by rw [hall]; split <;> omega
    refine ⟨zs.take len, some a, cap, by rw [List.length_take, Nat.min_eq_left hz], (fun e => nomatch e), fun hp => ?_⟩
    rw [List.length_take, Nat.min_eq_left hz] at hp ⊢
    obtain ⟨b, off, rfl, hc⟩ := ints_at hcell (by omega)
    refine ⟨b, off, rfl, fun j hj => ?_⟩
    rw [hc j (by omega)]
    simp [List.getD, hj]

theorem src_trod {H : Type} {enc : TypeId × Value → H} {W : World} {base : Nat} {spare : Nat → Bool} {held : Bool} {v : Value} 
    {fuel : Nat} {x : DataW H × List MemPlace} (hf : DataW.trod enc Try.prog W base spare held fuel 53 [v] = some x) : ∃ l, Src W v l := by
  rcases Go.ChangeShapes.open_ints Try.underlying53 Try.underlying3 (by kernel_rfl) hf with ⟨hcs, _⟩ | ⟨a, len', cap', zs, hcs, _, hle, _, hall, _, hcell, _⟩
  · cases hcs
    exact ⟨[], Src.nil W⟩
  · cases hcs
    have hz : len' ≤ zs.length := by rw [hall]; split <;> omega
    refine ⟨zs.take len', some a, cap', by rw [List.length_take, Nat.min_eq_left hz], (fun e => nomatch e), fun hp => ?_⟩
    rw [List.length_take, Nat.min_eq_left hz] at hp ⊢
    obtain ⟨b, off, rfl, hc⟩ := ints_at hcell (by omega)
    refine ⟨b, off, rfl, fun j hj => ?_⟩
    rw [hc j (by omega)]
    simp [List.getD, hj]

end Go.Proofs.Ytpmkfhfojmlalaa

