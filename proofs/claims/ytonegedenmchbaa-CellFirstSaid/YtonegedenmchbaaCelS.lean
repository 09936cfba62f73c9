
/-
  Cell: the argument: a slice of steps.
-/
import Derived.Test.YtonegedenmchbaaCelR
import Derived.Test.YtonegedenmchbaaRcN
import Derived.Test.YtonegedenmchbaaStructs
import Derived.ChangeSlices
import Derived.OpenShut
import Derived.WideShapes
import Derived.Deep.Slices
import Derived.ChangeArms
namespace Go.Proofs.Ytonegedenmchbaa
open Go.RowKit
set_option linter.unusedVariables false
set_option linter.unusedSimpArgs false
set_option maxRecDepth 100000

instance : Inhabited Stp := ⟨⟨0, 0, 0, 0, .slice none 0 0, []⟩⟩
/-- These cells are this step. -/
structure StpC (w : World) (b o : Nat) (s : Stp) : Prop where
  c0 : w.cell? ⟨b, o, none⟩ = some (.int .i64 s.wh)
  c1 : w.cell? ⟨b, o + 1, none⟩ = some (.int .i64 s.tid)
  c2 : w.cell? ⟨b, o + 2, none⟩ = some (.int .i64 s.cut)
  c3 : w.cell? ⟨b, o + 3, none⟩ = some (.int .u64 s.e)
  c4 : w.cell? ⟨b, o + 4, none⟩ = some s.cv
  src : Src w s.cv s.cl
  u : U64 s.e
theorem StpC.below {w w' : World} {b o : Nat} {r : Stp} (h : StpC w b o r) {n : Nat} (hn : w.heap.size ≤ n) (hB : Below n w w') : StpC w' b o r := by
  have hb : b < n := Nat.lt_of_lt_of_le (block_lt_of_cell h.c0) hn
  obtain ⟨c0, c1, c2, c3, c4, c5, c6⟩ := h
  have e : ∀ o, w'.cell? ⟨b, o, none⟩ = w.cell? ⟨b, o, none⟩ := fun o => hB.cell (p := ⟨b, o, none⟩) hb
  exact ⟨(e _).trans c0, (e _).trans c1, (e _).trans c2, (e _).trans c3, (e _).trans c4, c5.below hn hB, c6⟩
def StpsOf (w : World) (v : Value) (es : List Stp) : Prop :=
  ∃ ao cap, v = .slice ao es.length cap ∧ (0 < es.length → ∃ b o, ao = some ⟨b, o, none⟩ ∧ ∀ i, i < es.length → StpC w b (o + i * 5) (es.getD i default))
theorem src_trod {H : Type} {enc : TypeId × Value → H} {W : World} {base : Nat} {spare : Nat → Bool} {held : Bool} {v : Value} {fuel : Nat} {x : DataW H × List MemPlace}
    (hf : DataW.trod enc Try.prog W base spare held fuel 46 [v] = some x) : ∃ l, Src W v l := by
  rcases Go.ChangeShapes.open_ints Try.underlying46 Try.underlying3 (by kernel_rfl) hf with ⟨hcs, _⟩ | ⟨a, len', cap', zs, hcs, _, hle, _, hall, _, hcell, _⟩
  · simp at hcs
    subst hcs
    exact ⟨[], Src.nil W⟩
  · simp at hcs
    subst hcs
    have hz : len' ≤ zs.length := by rw [hall]; split <;> omega
    refine ⟨zs.take len', some a, cap', by rw [List.length_take, Nat.min_eq_left hz], (fun e => nomatch e), fun hp => ?_⟩
    rw [List.length_take, Nat.min_eq_left hz] at hp ⊢
    obtain ⟨b, off, rfl, hc⟩ := ints_at hcell (by omega)
    refine ⟨b, off, rfl, fun j hj => ?_⟩
    rw [hc j (by omega)]
    simp [List.getD, hj]
theorem u64_of_wf {x : Int} (h : (Lit.int .u64 x).wf = true) : U64 x := by
  simp [Lit.wf, IntKind.min, IntKind.max, IntKind.signed, IntKind.bits] at h
  exact ⟨by omega, by omega⟩
theorem stps_arg {H : Type} {enc : TypeId × Value → H} {W : World} {b0 : Nat} {held : Bool} {v : Value} {d : DataW H} {ps : List MemPlace}
    (hval : Value.okWide Try.prog W .any b0 56 v) (h : DataW.Trod enc Try.prog W 0 (fun _ => true) held 56 v d ps) : ∃ l, StpsOf W v l := by
  obtain ⟨a0, len0, cap0, rfl⟩ := Go.WideShapes.okWide_slice Try.underlying56 hval
  obtain ⟨fuel, hf⟩ := h
  obtain ⟨ao, len, cap, hcs, hle, hno, hc⟩ := open_structs Try.underlying56 Try.underlying60 (Go.Deep.hone_of (by kernel_rfl)) (by kernel_rfl) (by decide) hf
  simp [Value.cells] at hcs
  obtain ⟨rfl, rfl, rfl⟩ := hcs
  by_cases hp : 0 < len0
  · obtain ⟨b, o, rfl, hx⟩ := hc hp
    have each : ∀ i, i < len0 → ∃ p : Stp, StpC W b (o + i * 5) p := by
      intro i hi
      obtain ⟨v0, n0, y0, h0, t0⟩ := hx i hi 0 _ rfl
      obtain ⟨v1, n1, y1, h1, t1⟩ := hx i hi 1 _ rfl
      obtain ⟨v2, n2, y2, h2, t2⟩ := hx i hi 2 _ rfl
      obtain ⟨v3, n3, y3, h3, t3⟩ := hx i hi 3 _ rfl
      obtain ⟨v4, n4, y4, h4, t4⟩ := hx i hi 4 _ rfl
      obtain ⟨x0, e0, _⟩ := DataW.trod_int Try.underlying3 t0
      obtain ⟨x1, e1, _⟩ := DataW.trod_int Try.underlying3 t1
      obtain ⟨x2, e2, _⟩ := DataW.trod_int Try.underlying3 t2
      obtain ⟨x3, e3, _, w3⟩ := DataW.trod_int Try.underlying39 t3
      obtain ⟨l, hl⟩ := src_trod t4
      cases e0; cases e1; cases e2; cases e3
      exact ⟨⟨x0, x1, x2, x3, v4, l⟩, h0, h1, h2, h3, h4, hl, u64_of_wf w3⟩
    obtain ⟨f, hfx⟩ := Go.Deep.choose_lt each
    refine ⟨(List.range len0).map f, some ⟨b, o, none⟩, cap0, by simp, fun _ => ⟨b, o, rfl, fun i hi => ?_⟩⟩
    have hi' : i < len0 := by simpa using hi
    have : ((List.range len0).map f).getD i default = f i := by simp [List.getD, hi']
    rw [this]
    exact hfx i hi'
  · have h0 : len0 = 0 := by omega
    subst h0
    exact ⟨[], a0, cap0, rfl, fun h => by simp at h⟩
end Go.Proofs.Ytonegedenmchbaa

