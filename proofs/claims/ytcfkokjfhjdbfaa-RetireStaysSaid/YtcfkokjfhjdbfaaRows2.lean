
/-
  A slice of slices of whole numbers: as a walk reads it, and among a row's arguments.
-/
import Derived.Test.YtcfkokjfhjdbfaaClkI
import Derived.ChangeSlices
import Derived.OpenShut
import Derived.WideShapes
import Derived.Deep.Matrix
namespace Go.Proofs.Ytcfkokjfhjdbfaa
open Go.RowKit
set_option linter.unusedVariables false
set_option linter.unusedSimpArgs false

/-- A slice value that reads as these lists. -/
def RowsOf (w : World) (v : Value) (ls : List (List Int)) : Prop :=
  ∃ ao cap, v = .slice ao ls.length cap ∧ (ao = none → ls.length = 0 ∧ cap = 0) ∧ (0 < ls.length → ∃ b o, ao = some ⟨b, o, none⟩ ∧ ∀ j, j < ls.length → ∃ u, w.cell? ⟨b, o + j, none⟩ = some u ∧ Src w u (ls.getD j []))

theorem RowsOf.below {w w' : World} {v : Value} {ls : List (List Int)} (h : RowsOf w v ls) {n : Nat} (hn : w.heap.size ≤ n) (hB : Below n w w') : RowsOf w' v ls := by
  obtain ⟨ao, cap, rfl, h1, h2⟩ := h
  refine ⟨ao, cap, rfl, h1, fun hp => ?_⟩
  obtain ⟨b, o, rfl, h3⟩ := h2 hp
  refine ⟨b, o, rfl, fun j hj => ?_⟩
  obtain ⟨u, hu, hs⟩ := h3 j hj
  exact ⟨u, by rw [hB.cell (p := ⟨b, o + j, none⟩) (Nat.lt_of_lt_of_le (block_lt_of_cell hu) hn)]; exact hu, hs.below hn hB⟩

theorem rows_arg {H : Type} {enc : TypeId × Value → H} {W : World} {b0 : Nat} {held : Bool} {v : Value} {d : DataW H} {ps : List MemPlace}
    (hval : Value.okWide Try.prog W .any b0 22 v) (h : DataW.Trod enc Try.prog W 0 (fun _ => true) held 22 v d ps) : ∃ ls, RowsOf W v ls := by
  obtain ⟨a0, len, cap, rfl⟩ := Go.WideShapes.okWide_slice Try.underlying22 hval
  obtain ⟨fuel, hf⟩ := h
  rcases Go.Deep.open_int_rows Try.underlying22 Try.underlying39 Try.underlying3 (by kernel_rfl) (by kernel_rfl) hf with ⟨hcs, _⟩ | ⟨a, len', cap', A, L, C, Z, hcs, _, hle, _, _, hr⟩
  · simp [Value.cells] at hcs
    obtain ⟨rfl, rfl, rfl⟩ := hcs
    exact ⟨[], none, 0, rfl, fun _ => ⟨rfl, rfl⟩, fun h => by simp at h⟩
  · simp [Value.cells] at hcs
    obtain ⟨rfl, rfl, rfl⟩ := hcs
    refine ⟨(List.range len).map fun r => (Z r).take (L r), some a, cap, by simp, (fun e => nomatch e), fun hp => ?_⟩
    simp only [List.length_map, List.length_range] at hp ⊢
    obtain ⟨b, o, spot⟩ := a
    have hspot : spot = none := by simpa [Addr.add] using World.cell?_spot (hr 0 (by omega)).1
    subst hspot
    refine ⟨b, o, rfl, fun j hj => ?_⟩
    obtain ⟨h1, h2, h3, h4, _, h6, h7⟩ := hr j (by omega)
    refine ⟨_, by rw [← Go.WideShapes.add_plain]; exact h1, ?_⟩
    have hg : ((List.range len).map fun r => (Z r).take (L r)).getD j [] = (Z j).take (L j) := by simp [List.getD, hj]
    rw [hg]
    have hl : ((Z j).take (L j)).length = L j := by rw [List.length_take, h4]; omega
    refine ⟨A j, C j, by rw [hl], fun e => by have := h6 e; omega, fun hp' => ?_⟩
    rw [hl] at hp' ⊢
    cases hA : A j with
    | none => have := h6 hA; omega
    | some a' =>
      obtain ⟨_, h8⟩ := h7 a' hA
      obtain ⟨g, z, spot⟩ := a'
      have hspot : spot = none := by simpa [Addr.add] using World.cell?_spot (h8 0 (by omega))
      subst hspot
      refine ⟨g, z, rfl, fun i hi => ?_⟩
      rw [← Go.WideShapes.add_plain, h8 i (by omega)]
      simp [List.getD, List.getElem?_take, hi]

end Go.Proofs.Ytcfkokjfhjdbfaa

