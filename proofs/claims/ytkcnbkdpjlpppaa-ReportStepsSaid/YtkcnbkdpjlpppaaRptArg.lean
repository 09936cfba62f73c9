
/-
  Report: the argument that is an access.
-/
import Derived.Test.YtkcnbkdpjlpppaaRptI
import Derived.Test.YtkcnbkdpjlpppaaStructs
import Derived.Lib.SmallJoins
namespace Go.Proofs.Ytkcnbkdpjlpppaa
open Go.RowKit Go.ChangeShapes Go.WideShapes Go.Deep Go.Joins
set_option linter.unusedVariables false
set_option linter.unusedSimpArgs false
set_option maxRecDepth 100000

theorem array4 {α : Type} {cs : Array α} (h : cs.size = 4) : ∃ c0 c1 c2 c3, cs = #[c0, c1, c2, c3] := by
  obtain ⟨l⟩ := cs
  match l, h with
  | [c0, c1, c2, c3], _ => exact ⟨c0, c1, c2, c3, rfl⟩
/-- A struct of one-cell fields by value: each field's reading. -/
theorem open_agg_one {H : Type} {enc : TypeId × Value → H} {P : Program} {w : World} {base b0 : Nat} {spare : Nat → Bool} {held : Bool} {r : Reach} {t : TypeId} {fs : Array Field} {v : Value} {d : DataW H} {ps : List MemPlace}
    (hs : P.underlying t = some (.struct fs)) (hone : ∀ (i : Nat) (f : Field), fs[i]? = some f → f.offset = i ∧ P.cellsOf f.type = 1) (hC : P.cellsOf t = fs.size)
    (hv : Value.okWide P w r b0 t v) (h : DataW.Trod enc P w base spare held t v d ps) :
    ∃ cs : Array Value, v = .agg cs ∧ cs.size = fs.size ∧ ∀ (c : Nat) (f : Field), fs[c]? = some f → ∃ n y, DataW.trod enc P w base spare held n f.type [cs.toList.getD c undef] = some y := by
  obtain ⟨cs, rfl, hsz⟩ := okWide_struct hs hv
  obtain ⟨fuel, hf⟩ := h
  obtain ⟨xs, k, hk, hxy, _, hxl, hfs⟩ := DataW.trod_struct hs hf
  refine ⟨cs, rfl, hsz.trans hC, fun c f hf => ?_⟩
  have hc : c < fs.size := (Array.getElem?_eq_some_iff.1 hf).1
  obtain ⟨ho, hc1⟩ := hone c f hf
  have g := hfs c f hf
  rw [ho, hc1, show (Value.agg cs).cells = cs from rfl, take1_drop cs.toList c undef (by simp; omega)] at g
  exact ⟨_, xs[c]'(by omega), by rw [g]; simp [show c < xs.length by omega]⟩
theorem acc_arg {H : Type} {enc : TypeId × Value → H} {W : World} {b0 base : Nat} {spare : Nat → Bool} {held : Bool} {v : Value} {d : DataW H} {ps : List MemPlace}
    (hval : Value.okWide Try.prog W .any b0 23 v) (h : DataW.Trod enc Try.prog W base spare held 23 v d ps) : ∃ a b c wr, v = .agg #[.int .i64 a, .int .i64 b, .int .i64 c, .bool wr] := by
  obtain ⟨cs, rfl, hsz, hx⟩ := open_agg_one Try.underlying23 (hone_of (by kernel_rfl)) (by kernel_rfl) hval h
  obtain ⟨v0, v1, v2, v3, rfl⟩ := array4 hsz
  obtain ⟨n0, y0, t0⟩ := hx 0 _ rfl
  obtain ⟨n1, y1, t1⟩ := hx 1 _ rfl
  obtain ⟨n2, y2, t2⟩ := hx 2 _ rfl
  obtain ⟨n3, y3, t3⟩ := hx 3 _ rfl
  obtain ⟨x0, e0, _⟩ := DataW.trod_int Try.underlying3 t0
  obtain ⟨x1, e1, _⟩ := DataW.trod_int Try.underlying3 t1
  obtain ⟨x2, e2, _⟩ := DataW.trod_int Try.underlying3 t2
  obtain ⟨x3, e3, _⟩ := DataW.trod_bool Try.underlying4 t3
  simp at e0 e1 e2 e3
  subst e0; subst e1; subst e2; subst e3
  exact ⟨x0, x1, x2, x3, rfl⟩
end Go.Proofs.Ytkcnbkdpjlpppaa

