
/-
  A log among a row's arguments.
-/
import Derived.Test.YtpmkfhfojmlalaaQryC
import Derived.Lib.SmallJoins
namespace Go.Proofs.Ytpmkfhfojmlalaa
open Go.ChangeShapes Go.WideShapes Go.Deep Go.Joins
set_option linter.unusedVariables false
set_option linter.unusedSimpArgs false

theorem evs_trod {H : Type} {enc : TypeId × Value → H} {W : World} {base : Nat} {spare : Nat → Bool} {held : Bool} {v : Value} {fuel : Nat} {x : DataW H × List MemPlace}
    (hf : DataW.trod enc Try.prog W base spare held fuel 22 [v] = some x) : ∃ es, EvsOf W v es ∧ ∀ a n c, v = .slice a n c → n ≤ c := by
  obtain ⟨ao, len, cap, hcs, hle, hno, hc⟩ := open_structs Try.underlying22 Try.underlying50 (hone_of (by kernel_rfl)) (by kernel_rfl) (by decide) hf
  cases hcs
  by_cases hp : 0 < len
  · obtain ⟨b, o, rfl, hx⟩ := hc hp
    have each : ∀ i, i < len → ∃ p : Ev, EvAt W b (o + i * 8) p := by
      intro i hi
      obtain ⟨v0, n0, y0, h0, t0⟩ := hx i hi 0 _ rfl
      obtain ⟨v1, n1, y1, h1, t1⟩ := hx i hi 1 _ rfl
      obtain ⟨v2, n2, y2, h2, t2⟩ := hx i hi 2 _ rfl
      obtain ⟨v3, n3, y3, h3, t3⟩ := hx i hi 3 _ rfl
      obtain ⟨v4, n4, y4, h4, t4⟩ := hx i hi 4 _ rfl
      obtain ⟨v5, n5, y5, h5, t5⟩ := hx i hi 5 _ rfl
      obtain ⟨v6, n6, y6, h6, t6⟩ := hx i hi 6 _ rfl
      obtain ⟨v7, n7, y7, h7, t7⟩ := hx i hi 7 _ rfl
      obtain ⟨x0, e0, _⟩ := DataW.trod_int Try.underlying3 t0
      obtain ⟨x1, e1, _⟩ := DataW.trod_int Try.underlying3 t1
      obtain ⟨x2, e2, _⟩ := DataW.trod_int Try.underlying3 t2
      obtain ⟨x3, e3, _⟩ := DataW.trod_int Try.underlying3 t3
      obtain ⟨x4, e4, _⟩ := DataW.trod_int Try.underlying3 t4
      obtain ⟨x5, e5, _⟩ := DataW.trod_int Try.underlying3 t5
      obtain ⟨x6, e6, _⟩ := DataW.trod_bool Try.underlying4 t6
      obtain ⟨x7, e7, _⟩ := DataW.trod_bool Try.underlying4 t7
      cases e0; cases e1; cases e2; cases e3; cases e4; cases e5; cases e6; cases e7
      exact ⟨⟨x0, x1, x2, x3, x4, x5, x6, x7⟩, h0, h1, h2, h3, h4, h5, h6, h7⟩
    obtain ⟨f, hfx⟩ := choose_lt each
    refine ⟨(List.range len).map f, ⟨some ⟨b, o, none⟩, cap, by simp, fun _ => ⟨b, o, rfl, fun i hi => ?_⟩⟩, fun a n c e => by cases e; exact hle⟩
    have hi' : i < len := by simpa using hi
    have : ((List.range len).map f).getD i default = f i := by simp [List.getD, hi']
    rw [this]
    exact hfx i hi'
  · have h0 : len = 0 := by omega
    subst h0
    exact ⟨[], ⟨ao, cap, rfl, fun h => by simp at h⟩, fun a n c e => by cases e; exact hle⟩

theorem recs_trod {H : Type} {enc : TypeId × Value → H} {W : World} {base : Nat} {spare : Nat → Bool} {held : Bool} {v : Value} {fuel : Nat} {x : DataW H × List MemPlace}
    (hf : DataW.trod enc Try.prog W base spare held fuel 24 [v] = some x) : ∃ rs, RecsOf W v rs := by
  obtain ⟨ao, len, cap, hcs, hle, hno, hc⟩ := open_structs Try.underlying24 Try.underlying45 (hone_of (by kernel_rfl)) (by kernel_rfl) (by decide) hf
  cases hcs
  by_cases hp : 0 < len
  · obtain ⟨b, o, rfl, hx⟩ := hc hp
    have each : ∀ i, i < len → ∃ p : Rec, RecAt W b (o + i * 6) p := by
      intro i hi
      obtain ⟨v0, n0, y0, h0, t0⟩ := hx i hi 0 _ rfl
      obtain ⟨v1, n1, y1, h1, t1⟩ := hx i hi 1 _ rfl
      obtain ⟨v2, n2, y2, h2, t2⟩ := hx i hi 2 _ rfl
      obtain ⟨v3, n3, y3, h3, t3⟩ := hx i hi 3 _ rfl
      obtain ⟨v4, n4, y4, h4, t4⟩ := hx i hi 4 _ rfl
      obtain ⟨v5, n5, y5, h5, t5⟩ := hx i hi 5 _ rfl
      obtain ⟨x0, e0, _⟩ := DataW.trod_int Try.underlying3 t0
      obtain ⟨x1, e1, _⟩ := DataW.trod_int Try.underlying3 t1
      obtain ⟨x2, e2, _⟩ := DataW.trod_int Try.underlying3 t2
      obtain ⟨x3, e3, _⟩ := DataW.trod_bool Try.underlying4 t3
      obtain ⟨x4, e4, _⟩ := DataW.trod_int Try.underlying3 t4
      obtain ⟨x5, e5, _⟩ := DataW.trod_int Try.underlying3 t5
      cases e0; cases e1; cases e2; cases e3; cases e4; cases e5
      exact ⟨⟨x0, x1, x2, x3, x4, x5⟩, h0, h1, h2, h3, h4, h5⟩
    obtain ⟨f, hfx⟩ := choose_lt each
    refine ⟨(List.range len).map f, some ⟨b, o, none⟩, cap, by simp, fun _ => ⟨b, o, rfl, fun i hi => ?_⟩⟩
    have hi' : i < len := by simpa using hi
    have : ((List.range len).map f).getD i default = f i := by simp [List.getD, hi']
    rw [this]
    exact hfx i hi'
  · have h0 : len = 0 := by omega
    subst h0
    exact ⟨[], ao, cap, rfl, fun h => by simp at h⟩

theorem sts_trod {H : Type} {enc : TypeId × Value → H} {W : World} {base : Nat} {spare : Nat → Bool} {held : Bool} {v : Value} {fuel : Nat} {x : DataW H × List MemPlace}
    (hf : DataW.trod enc Try.prog W base spare held fuel 23 [v] = some x) : ∃ ss, StsOf W v ss := by
  obtain ⟨ao, len, cap, hcs, hle, hno, hc⟩ := open_structs Try.underlying23 Try.underlying55 (hone_of (by kernel_rfl)) (by kernel_rfl) (by decide) hf
  cases hcs
  by_cases hp : 0 < len
  · obtain ⟨b, o, rfl, hx⟩ := hc hp
    have each : ∀ i, i < len → ∃ p : Int × List Int, StAt W b (o + i * 2) p := by
      intro i hi
      obtain ⟨v0, n0, y0, h0, t0⟩ := hx i hi 0 _ rfl
      obtain ⟨v1, n1, y1, h1, t1⟩ := hx i hi 1 _ rfl
      obtain ⟨x0, e0, _, wf0⟩ := DataW.trod_int Try.underlying52 t0
      obtain ⟨cs, hs⟩ := src_trod t1
      cases e0
      simp [Lit.wf, IntKind.min, IntKind.max, IntKind.signed, IntKind.bits] at wf0
      exact ⟨(x0, cs), ⟨by dsimp only; omega, by dsimp only; omega⟩, h0, v1, h1, hs⟩
    obtain ⟨f, hfx⟩ := choose_lt each
    refine ⟨(List.range len).map f, some ⟨b, o, none⟩, cap, by simp, fun _ => ⟨b, o, rfl, fun i hi => ?_⟩⟩
    have hi' : i < len := by simpa using hi
    have : ((List.range len).map f).getD i (0, []) = f i := by simp [List.getD, hi']
    rw [this]
    exact hfx i hi'
  · have h0 : len = 0 := by omega
    subst h0
    exact ⟨[], ao, cap, rfl, fun h => by simp at h⟩

theorem log_arg {H : Type} {enc : TypeId × Value → H} {W : World} {b0 : Nat} {held : Bool} {v : Value} {d : DataW H} {ps : List MemPlace}
    (hval : Value.okWide Try.prog W .any b0 26 v) (h : DataW.Trod enc Try.prog W 0 (fun _ => true) held 26 v d ps) : ∃ ve vs vr es ss rs, v = .agg #[ve, vs, vr] ∧ EvsOf W ve es ∧ StsOf W vs ss ∧ RecsOf W vr rs ∧ ∀ a n c, ve = .slice a n c → n ≤ c := by
  obtain ⟨v0, v1, v2, y0, y1, y2, n, rfl, _, _, h0, h1, h2⟩ := open_agg3 Try.underlying26 (by kernel_rfl) (by kernel_rfl) hval h
  obtain ⟨es, h0, hcap⟩ := evs_trod h0
  obtain ⟨ss, h1⟩ := sts_trod h1
  obtain ⟨rs, h2⟩ := recs_trod h2
  exact ⟨v0, v1, v2, es, ss, rs, rfl, h0, h1, h2, hcap⟩

end Go.Proofs.Ytpmkfhfojmlalaa

