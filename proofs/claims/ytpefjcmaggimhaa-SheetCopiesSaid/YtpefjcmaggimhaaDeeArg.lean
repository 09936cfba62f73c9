
/-
  Operations as arguments of a row.
-/
import Derived.Test.YtpefjcmaggimhaaDeeB
import Derived.Test.YtpefjcmaggimhaaStructs
import Derived.Lib.SmallJoins
namespace Go.Proofs.Ytpefjcmaggimhaa
open Go.RowKit Go.ChangeShapes Go.WideShapes Go.Deep Go.Joins
set_option linter.unusedVariables false
set_option linter.unusedSimpArgs false
set_option maxRecDepth 100000

theorem css_trod {H : Type} {enc : TypeId × Value → H} {W : World} {base : Nat} {spare : Nat → Bool} {held : Bool} {v : Value} {fuel : Nat} {x : DataW H × List MemPlace}
    (hf : DataW.trod enc Try.prog W base spare held fuel 46 [v] = some x) : ∃ cs, CssOf W v cs := by
  obtain ⟨ao, len, cap, hcs, hle, hno, hc⟩ := open_structs Try.underlying46 Try.underlying50 (hone_of (by kernel_rfl)) (by kernel_rfl) (by decide) hf
  cases hcs
  by_cases hp : 0 < len
  · obtain ⟨b, o, rfl, hx⟩ := hc hp
    have each : ∀ i, i < len → ∃ p : Cs, CsC W b (o + i * 3) p := by
      intro i hi
      obtain ⟨v0, n0, y0, h0, t0⟩ := hx i hi 0 _ rfl
      obtain ⟨v1, n1, y1, h1, t1⟩ := hx i hi 1 _ rfl
      obtain ⟨v2, n2, y2, h2, t2⟩ := hx i hi 2 _ rfl
      obtain ⟨x0, e0, _⟩ := DataW.trod_bool Try.underlying4 t0
      obtain ⟨x1, e1, _⟩ := DataW.trod_int Try.underlying3 t1
      obtain ⟨x2, e2, _⟩ := DataW.trod_int Try.underlying3 t2
      cases e0; cases e1; cases e2
      exact ⟨⟨x0, x1, x2⟩, h0, h1, h2⟩
    obtain ⟨f, hfx⟩ := choose_lt each
    refine ⟨(List.range len).map f, some ⟨b, o, none⟩, cap, by simp, fun _ => ⟨b, o, rfl, fun i hi => ?_⟩⟩
    have hi' : i < len := by simpa using hi
    have : ((List.range len).map f).getD i default = f i := by simp [List.getD, hi']
    rw [this]
    exact hfx i hi'
  · have h0 : len = 0 := by omega
    subst h0
    exact ⟨[], ao, cap, rfl, fun h => by simp at h⟩
theorem array5 {α : Type} {cs : Array α} (h : cs.size = 5) : ∃ c0 c1 c2 c3 c4, cs = #[c0, c1, c2, c3, c4] := by
  obtain ⟨l⟩ := cs
  match l, h with
  | [c0, c1, c2, c3, c4], _ => exact ⟨c0, c1, c2, c3, c4, rfl⟩
/-- A struct of one-cell fields by value: each field's reading. -/
theorem open_agg_one {H : Type} {enc : TypeId × Value → H} {P : Program} {w : World} {base b0 : Nat} {spare : Nat → Bool} {held : Bool} {r : Reach} {t : TypeId} {fs : Array Field} {v : Value} {d : DataW H} {ps : List MemPlace}
    (hs : P.underlying t = some (.struct fs)) (hone : ∀ (i : Nat) (f : Field), fs[i]? = some f → f.offset = i ∧ P.cellsOf f.type = 1) (hC : P.cellsOf t = fs.size)
    (hv : Value.okWide P w r b0 t v) (h : DataW.Trod enc P w base spare held t v d ps) :
    ∃ cs : Array Value, v = .agg cs ∧ cs.size = fs.size ∧ ∀ (c : Nat) (f : Field), fs[c]? = some f → ∃ n y, DataW.trod enc P w base spare held n f.type [cs.toList.getD c undef] = some y := by
  obtain ⟨cs, rfl, hsz⟩ := okWide_struct hs hv
  obtain ⟨fuel, hf⟩ := h
  obtain ⟨xs, k, hk, hxy, _, hxl, hfs⟩ := DataW.trod_struct hs hf
  refine ⟨cs, rfl, hsz.trans hC, fun c f hf => ?_⟩
  have hc : c < fs.size := (Array.getElem?_eq_some_iff.1 hf).1
  obtain ⟨ho, hc1⟩ := hone c f hf
  have g := hfs c f hf
  rw [ho, hc1, show (Value.agg cs).cells = cs from rfl, take1_drop cs.toList c undef (by simp; omega)] at g
  exact ⟨_, xs[c]'(by omega), by rw [g]; simp [show c < xs.length by omega]⟩
theorem op_arg {H : Type} {enc : TypeId × Value → H} {W : World} {b0 base : Nat} {spare : Nat → Bool} {held : Bool} {v : Value} {d : DataW H} {ps : List MemPlace}
    (hval : Value.okWide Try.prog W .any b0 48 v) (h : DataW.Trod enc Try.prog W base spare held 48 v d ps) : ∃ o u, v = opV u o ∧ CssOf W u o.cs := by
  obtain ⟨cs, rfl, hsz, hx⟩ := open_agg_one Try.underlying48 (hone_of (by kernel_rfl)) (by kernel_rfl) hval h
  obtain ⟨v0, v1, v2, v3, v4, rfl⟩ := array5 hsz
  obtain ⟨n0, y0, t0⟩ := hx 0 _ rfl
  obtain ⟨n1, y1, t1⟩ := hx 1 _ rfl
  obtain ⟨n2, y2, t2⟩ := hx 2 _ rfl
  obtain ⟨n3, y3, t3⟩ := hx 3 _ rfl
  obtain ⟨n4, y4, t4⟩ := hx 4 _ rfl
  obtain ⟨x0, e0, _⟩ := DataW.trod_int Try.underlying3 t0
  obtain ⟨x1, e1, _⟩ := DataW.trod_int Try.underlying3 t1
  obtain ⟨x2, e2, _⟩ := DataW.trod_int Try.underlying3 t2
  obtain ⟨cs, h3⟩ := css_trod t3
  obtain ⟨x4, e4, _⟩ := DataW.trod_bool Try.underlying4 t4
  simp at e0 e1 e2 e4 h3
  subst e0; subst e1; subst e2; subst e4
  exact ⟨⟨x0, x1, x2, cs, x4⟩, v3, rfl, h3⟩
end Go.Proofs.Ytpefjcmaggimhaa

