
/-
  The arguments of layer 15's rows: a slice of truths; a slice of steps.
-/
import Derived.Test.YtlkfhobacgnckaaArg
import Derived.Test.YtlkfhobacgnckaaStructs
import Derived.Deep.Slices
import Derived.ChangeArms
namespace Go.Proofs.Ytlkfhobacgnckaa
open Go.RowKit
set_option linter.unusedVariables false
set_option linter.unusedSimpArgs false

/-- A slice of truths. -/
def BoolsOf (w : World) (v : Value) (l : List Bool) : Prop :=
  ∃ ao cap, v = .slice ao l.length cap ∧ (0 < l.length → ∃ b o, ao = some ⟨b, o, none⟩ ∧ ∀ i, i < l.length → w.cell? ⟨b, o + i, none⟩ = some (.bool (l.getD i false)))
theorem BoolsOf.below {w w' : World} {v : Value} {l : List Bool} (h : BoolsOf w v l) (hB : Below w.heap.size w w') : BoolsOf w' v l := by
  obtain ⟨ao, cap, rfl, hc⟩ := h
  refine ⟨ao, cap, rfl, fun hp => ?_⟩
  obtain ⟨b, o, rfl, hd⟩ := hc hp
  exact ⟨b, o, rfl, fun i hi => by rw [hB.cell (p := ⟨b, o + i, none⟩) (block_lt_of_cell (hd i hi))]; exact hd i hi⟩

theorem bools_arg {H : Type} {enc : TypeId × Value → H} {W : World} {b0 : Nat} {held : Bool} {v : Value} {d : DataW H} {ps : List MemPlace}
    (hval : Value.okWide Try.prog W .any b0 22 v) (h : DataW.Trod enc Try.prog W 0 (fun _ => true) held 22 v d ps) : ∃ l, BoolsOf W v l := by
  obtain ⟨a0, len0, cap0, rfl⟩ := Go.WideShapes.okWide_slice Try.underlying22 hval
  obtain ⟨fuel, hf⟩ := h
  rcases Go.Deep.open_slice1 Try.underlying22 (by kernel_rfl) hf with ⟨hcs, _⟩ | ⟨a, len, cap, m, n, V, D, Pl, hcs, _, hle, _, hm, _, hx⟩
  · simp [Value.cells] at hcs
    obtain ⟨rfl, rfl, rfl⟩ := hcs
    exact ⟨[], none, 0, rfl, fun h => by simp at h⟩
  · simp [Value.cells] at hcs
    obtain ⟨rfl, rfl, rfl⟩ := hcs
    by_cases hp : 0 < len0
    · have hlm : len0 ≤ m := by rw [hm]; split <;> omega
      obtain ⟨b, o, spot⟩ := a
      have hspot : spot = none := by
        have := (hx 0 (by omega)).1
        simpa [Addr.add] using World.cell?_spot this
      subst hspot
      have each : ∀ i, i < len0 → ∃ t : Bool, W.cell? ⟨b, o + i, none⟩ = some (.bool t) := by
        intro i hi
        obtain ⟨h1, h2⟩ := hx i (by omega)
        obtain ⟨t, e, _⟩ := DataW.trod_bool Try.underlying4 h2
        have e' : V i = .bool t := by simpa using e
        rw [Go.WideShapes.add_plain, e'] at h1
        exact ⟨t, h1⟩
      obtain ⟨f, hfx⟩ := Go.Deep.choose_lt each
      refine ⟨(List.range len0).map f, some ⟨b, o, none⟩, cap0, by simp, fun _ => ⟨b, o, rfl, fun i hi => ?_⟩⟩
      have hi' : i < len0 := by simpa using hi
      have : ((List.range len0).map f).getD i false = f i := by simp [List.getD, hi']
      rw [this]
      exact hfx i hi'
    · have h0 : len0 = 0 := by omega
      subst h0
      exact ⟨[], some a, cap0, rfl, fun h => by simp at h⟩

/-- A step: what, a tid, numbers. -/
structure Stp where
  what : Int
  tid : Int
  C : List Int
instance : Inhabited Stp := ⟨⟨0, 0, []⟩⟩
def StpsOf (w : World) (v : Value) (l : List Stp) : Prop :=
  ∃ ao cap, v = .slice ao l.length cap ∧ (0 < l.length → ∃ b o, ao = some ⟨b, o, none⟩ ∧ ∀ i, i < l.length → w.cell? ⟨b, o + i * 3, none⟩ = some (.int .i64 (l.getD i ⟨0, 0, []⟩).what) ∧ w.cell? ⟨b, o + i * 3 + 1, none⟩ = some (.int .i64 (l.getD i ⟨0, 0, []⟩).tid) ∧ ∃ c, w.cell? ⟨b, o + i * 3 + 2, none⟩ = some c ∧ Src w c (l.getD i ⟨0, 0, []⟩).C)
theorem StpsOf.below {w w' : World} {v : Value} {l : List Stp} (h : StpsOf w v l) (hB : Below w.heap.size w w') : StpsOf w' v l := by
  obtain ⟨ao, cap, rfl, hc⟩ := h
  refine ⟨ao, cap, rfl, fun hp => ?_⟩
  obtain ⟨b, o, rfl, hd⟩ := hc hp
  refine ⟨b, o, rfl, fun i hi => ?_⟩
  obtain ⟨h1, h2, c, h3, h4⟩ := hd i hi
  exact ⟨by rw [hB.cell (p := ⟨b, _, none⟩) (block_lt_of_cell h1)]; exact h1, by rw [hB.cell (p := ⟨b, _, none⟩) (block_lt_of_cell h2)]; exact h2, c, by rw [hB.cell (p := ⟨b, _, none⟩) (block_lt_of_cell h3)]; exact h3, h4.below (Nat.le_refl _) hB⟩

theorem src_trod {H : Type} {enc : TypeId × Value → H} {W : World} {base : Nat} {spare : Nat → Bool} {held : Bool} {v : Value} {fuel : Nat} {x : DataW H × List MemPlace}
    (hf : DataW.trod enc Try.prog W base spare held fuel 31 [v] = some x) : ∃ l, Src W v l := by
  rcases Go.ChangeShapes.open_ints Try.underlying31 Try.underlying3 (by kernel_rfl) hf with ⟨hcs, _⟩ | ⟨a, len', cap', zs, hcs, _, hle, _, hall, _, hcell, _⟩
  · simp at hcs
    subst hcs
    exact ⟨[], Src.nil W⟩
  · simp at hcs
    subst hcs
    have hz : len' ≤ zs.length := by rw [hall]; split <;> omega
    refine ⟨zs.take len', some a, cap', by rw [List.length_take, Nat.min_eq_left hz], (fun e => nomatch e), fun hp => ?_⟩
    rw [List.length_take, Nat.min_eq_left hz] at hp ⊢
    obtain ⟨b, off, rfl, hc⟩ := ints_at hcell (by omega)
    refine ⟨b, off, rfl, fun j hj => ?_⟩
    rw [hc j (by omega)]
    simp [List.getD, hj]

theorem stps_arg {H : Type} {enc : TypeId × Value → H} {W : World} {b0 : Nat} {held : Bool} {v : Value} {d : DataW H} {ps : List MemPlace}
    (hval : Value.okWide Try.prog W .any b0 37 v) (h : DataW.Trod enc Try.prog W 0 (fun _ => true) held 37 v d ps) : ∃ l, StpsOf W v l := by
  obtain ⟨a0, len0, cap0, rfl⟩ := Go.WideShapes.okWide_slice Try.underlying37 hval
  obtain ⟨fuel, hf⟩ := h
  obtain ⟨ao, len, cap, hcs, hle, hno, hc⟩ := open_structs Try.underlying37 Try.underlying39 (Go.Deep.hone_of (by kernel_rfl)) (by kernel_rfl) (by decide) hf
  simp [Value.cells] at hcs
  obtain ⟨rfl, rfl, rfl⟩ := hcs
  by_cases hp : 0 < len0
  · obtain ⟨b, o, rfl, hx⟩ := hc hp
    have each : ∀ i, i < len0 → ∃ p : Stp, W.cell? ⟨b, o + i * 3, none⟩ = some (.int .i64 p.what) ∧ W.cell? ⟨b, o + i * 3 + 1, none⟩ = some (.int .i64 p.tid) ∧ ∃ c, W.cell? ⟨b, o + i * 3 + 2, none⟩ = some c ∧ Src W c p.C := by
      intro i hi
      obtain ⟨v0, n0, y0, h0, t0⟩ := hx i hi 0 _ rfl
      obtain ⟨v1, n1, y1, h1, t1⟩ := hx i hi 1 _ rfl
      obtain ⟨v2, n2, y2, h2, t2⟩ := hx i hi 2 _ rfl
      obtain ⟨x0, e0, _⟩ := DataW.trod_int Try.underlying3 t0
      obtain ⟨x1, e1, _⟩ := DataW.trod_int Try.underlying3 t1
      obtain ⟨l, hl⟩ := src_trod t2
      cases e0; cases e1
      exact ⟨⟨x0, x1, l⟩, h0, h1, v2, h2, hl⟩
    obtain ⟨f, hfx⟩ := Go.Deep.choose_lt each
    refine ⟨(List.range len0).map f, some ⟨b, o, none⟩, cap0, by simp, fun _ => ⟨b, o, rfl, fun i hi => ?_⟩⟩
    have hi' : i < len0 := by simpa using hi
    have : ((List.range len0).map f).getD i ⟨0, 0, []⟩ = f i := by simp [List.getD, hi']
    rw [this]
    exact hfx i hi'
  · have h0 : len0 = 0 := by omega
    subst h0
    exact ⟨[], a0, cap0, rfl, fun h => by simp at h⟩

end Go.Proofs.Ytlkfhobacgnckaa

