
/-
  Cell: the argument of two bools.
-/
import Derived.Test.YtonegedenmchbaaLaw18a
import Derived.ChangeSlices
import Derived.OpenShut
import Derived.WideShapes
namespace Go.Proofs.Ytonegedenmchbaa
open Go.RowKit Go.ChangeShapes Go.WideShapes
set_option linter.unusedVariables false
set_option linter.unusedSimpArgs false
set_option maxRecDepth 100000

theorem two_bools_arg {H : Type} {enc : TypeId × Value → H} {W : World} {b0 base : Nat} {spare : Nat → Bool} {held : Bool} {v : Value} {d : DataW H} {ps : List MemPlace}
    (hval : Value.okWide Try.prog W .any b0 52 v) (h : DataW.Trod enc Try.prog W base spare held 52 v d ps) : ∃ x y, v = .agg #[.bool x, .bool y] := by
  obtain ⟨cs, rfl, hsz⟩ : ∃ cs, v = .agg cs ∧ cs.size = Try.prog.cellsOf 52 := by
    simp only [Value.okWide, Try.underlying52] at hval
    obtain ⟨cs, h1, h2, _⟩ := hval
    exact ⟨cs, h1, h2⟩
  have h2 : cs.size = 2 := hsz.trans (by kernel_rfl)
  obtain ⟨c0, c1, rfl⟩ : ∃ c0 c1, cs = #[c0, c1] := by
    obtain ⟨l⟩ := cs
    match l, h2 with
    | [c0, c1], _ => exact ⟨c0, c1, rfl⟩
  obtain ⟨fuel, hf⟩ := h
  obtain ⟨xs, m, rfl, _, _, hl, hx⟩ := DataW.trod_array Try.underlying52 hf
  have hc : Try.prog.cellsOf 4 = 1 := by kernel_rfl
  have g0 := hx 0 (by omega)
  have g1 := hx 1 (by omega)
  rw [hc] at g0 g1
  simp [Value.cells] at g0 g1
  rw [List.getElem?_eq_getElem (by omega)] at g0 g1
  obtain ⟨x0, e0, _⟩ := DataW.trod_bool Try.underlying4 g0
  obtain ⟨x1, e1, _⟩ := DataW.trod_bool Try.underlying4 g1
  simp at e0 e1
  subst e0 e1
  exact ⟨x0, x1, rfl⟩
end Go.Proofs.Ytonegedenmchbaa

