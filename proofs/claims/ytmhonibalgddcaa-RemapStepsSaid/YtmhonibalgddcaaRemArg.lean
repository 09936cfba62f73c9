
/-
  Remap: arguments: a step; a slice of steps.
-/
import Derived.Test.YtmhonibalgddcaaRemN
import Derived.Test.YtmhonibalgddcaaStructs
import Derived.Lib.SmallJoins
namespace Go.Proofs.Ytmhonibalgddcaa
open Go.RowKit Go.ChangeShapes Go.WideShapes Go.Deep Go.Joins
set_option linter.unusedVariables false
set_option linter.unusedSimpArgs false
set_option maxRecDepth 100000

theorem array4 {α : Type} {cs : Array α} (h : cs.size = 4) : ∃ c0 c1 c2 c3, cs = #[c0, c1, c2, c3] := by
  obtain ⟨l⟩ := cs
  match l, h with
  | [c0, c1, c2, c3], _ => exact ⟨c0, c1, c2, c3, rfl⟩
theorem open_agg_one {H : Type} {enc : TypeId × Value → H} {P : Program} {w : World} {base b0 : Nat} {spare : Nat → Bool} {held : Bool} {r : Reach} {t : TypeId} {fs : Array Field} {v : Value} {d : DataW H} {ps : List MemPlace}
    (hs : P.underlying t = some (.struct fs)) (hone : ∀ (i : Nat) (f : Field), fs[i]? = some f → f.offset = i ∧ P.cellsOf f.type = 1) (hC : P.cellsOf t = fs.size)
    (hv : Value.okWide P w r b0 t v) (h : DataW.Trod enc P w base spare held t v d ps) :
    ∃ cs : Array Value, v = .agg cs ∧ cs.size = fs.size ∧ ∀ (c : Nat) (f : Field), fs[c]? = some f → ∃ n y, DataW.trod enc P w base spare held n f.type [cs.toList.getD c undef] = some y := by
  obtain ⟨cs, rfl, hsz⟩ := okWide_struct hs hv
  obtain ⟨fuel, hf⟩ := h
  obtain ⟨xs, k, hk, hxy, _, hxl, hfs⟩ := DataW.trod_struct hs hf
  refine ⟨cs, rfl, hsz.trans hC, fun c f hf => ?_⟩
  have hc : c < fs.size := (Array.getElem?_eq_some_iff.1 hf).1
  obtain ⟨ho, hc1⟩ := hone c f hf
  have g := hfs c f hf
  rw [ho, hc1, show (Value.agg cs).cells = cs from rfl, take1_drop cs.toList c undef (by simp; omega)] at g
  exact ⟨_, xs[c]'(by omega), by rw [g]; simp [show c < xs.length by omega]⟩
theorem stp_arg {H : Type} {enc : TypeId × Value → H} {W : World} {b0 base : Nat} {spare : Nat → Bool} {held : Bool} {v : Value} {d : DataW H} {ps : List MemPlace}
    (hval : Value.okWide Try.prog W .any b0 29 v) (h : DataW.Trod enc Try.prog W base spare held 29 v d ps) : ∃ s, v = stpV s := by
  obtain ⟨cs, rfl, hsz, hx⟩ := open_agg_one Try.underlying29 (hone_of (by kernel_rfl)) (by kernel_rfl) hval h
  obtain ⟨v0, v1, v2, v3, rfl⟩ := array4 hsz
  obtain ⟨n0, y0, t0⟩ := hx 0 _ rfl
  obtain ⟨n1, y1, t1⟩ := hx 1 _ rfl
  obtain ⟨n2, y2, t2⟩ := hx 2 _ rfl
  obtain ⟨n3, y3, t3⟩ := hx 3 _ rfl
  obtain ⟨x0, e0, _⟩ := DataW.trod_int Try.underlying3 t0
  obtain ⟨x1, e1, _⟩ := DataW.trod_int Try.underlying3 t1
  obtain ⟨x2, e2, _⟩ := DataW.trod_int Try.underlying3 t2
  obtain ⟨x3, e3, _⟩ := DataW.trod_int Try.underlying3 t3
  simp at e0 e1 e2 e3
  subst e0; subst e1; subst e2; subst e3
  exact ⟨⟨x0, x1, x2, x3⟩, rfl⟩

/-- These cells are this step. -/
structure StpC (w : World) (b o : Nat) (s : Stp) : Prop where
  c0 : w.cell? ⟨b, o, none⟩ = some (.int .i64 s.wh)
  c1 : w.cell? ⟨b, o + 1, none⟩ = some (.int .i64 s.g)
  c2 : w.cell? ⟨b, o + 2, none⟩ = some (.int .i64 s.n)
  c3 : w.cell? ⟨b, o + 3, none⟩ = some (.int .i64 s.at')
theorem StpC.below {w w' : World} {b o : Nat} {r : Stp} (h : StpC w b o r) {n : Nat} (hn : w.heap.size ≤ n) (hB : Below n w w') : StpC w' b o r := by
  have hb : b < n := Nat.lt_of_lt_of_le (block_lt_of_cell h.c0) hn
  obtain ⟨c0, c1, c2, c3⟩ := h
  have e : ∀ o, w'.cell? ⟨b, o, none⟩ = w.cell? ⟨b, o, none⟩ := fun o => hB.cell (p := ⟨b, o, none⟩) hb
  exact ⟨(e _).trans c0, (e _).trans c1, (e _).trans c2, (e _).trans c3⟩
def StpsOf (w : World) (v : Value) (es : List Stp) : Prop :=
  ∃ ao cap, v = .slice ao es.length cap ∧ (0 < es.length → ∃ b o, ao = some ⟨b, o, none⟩ ∧ ∀ i, i < es.length → StpC w b (o + i * 4) (es.getD i default))
theorem stps_arg {H : Type} {enc : TypeId × Value → H} {W : World} {b0 base : Nat} {spare : Nat → Bool} {held : Bool} {v : Value} {d : DataW H} {ps : List MemPlace}
    (hval : Value.okWide Try.prog W .any b0 22 v) (h : DataW.Trod enc Try.prog W base spare held 22 v d ps) : ∃ es, StpsOf W v es := by
  obtain ⟨fuel, hf⟩ := h
  obtain ⟨a0, len0, cap0, rfl⟩ := Go.WideShapes.okWide_slice Try.underlying22 hval
  obtain ⟨ao, len, cap, hcs, hle, hno, hc⟩ := open_structs Try.underlying22 Try.underlying29 (hone_of (by kernel_rfl)) (by kernel_rfl) (by decide) hf
  simp [Value.cells] at hcs
  obtain ⟨rfl, rfl, rfl⟩ := hcs
  by_cases hp : 0 < len0
  · obtain ⟨b, o, rfl, hx⟩ := hc hp
    have each : ∀ i, i < len0 → ∃ p : Stp, StpC W b (o + i * 4) p := by
      intro i hi
      obtain ⟨v0, n0, y0, h0, t0⟩ := hx i hi 0 _ rfl
      obtain ⟨v1, n1, y1, h1, t1⟩ := hx i hi 1 _ rfl
      obtain ⟨v2, n2, y2, h2, t2⟩ := hx i hi 2 _ rfl
      obtain ⟨v3, n3, y3, h3, t3⟩ := hx i hi 3 _ rfl
      obtain ⟨x0, e0, _⟩ := DataW.trod_int Try.underlying3 t0
      obtain ⟨x1, e1, _⟩ := DataW.trod_int Try.underlying3 t1
      obtain ⟨x2, e2, _⟩ := DataW.trod_int Try.underlying3 t2
      obtain ⟨x3, e3, _⟩ := DataW.trod_int Try.underlying3 t3
      cases e0; cases e1; cases e2; cases e3
      exact ⟨⟨x0, x1, x2, x3⟩, h0, h1, h2, h3⟩
    obtain ⟨f, hfx⟩ := choose_lt each
    refine ⟨(List.range len0).map f, some ⟨b, o, none⟩, cap0, by simp, fun _ => ⟨b, o, rfl, fun i hi => ?_⟩⟩
    have hi' : i < len0 := by simpa using hi
    have : ((List.range len0).map f).getD i default = f i := by simp [List.getD, hi']
    rw [this]
    exact hfx i hi'
  · have h0 : len0 = 0 := by omega
    subst h0
    exact ⟨[], a0, cap0, rfl, fun h => by simp at h⟩
end Go.Proofs.Ytmhonibalgddcaa

