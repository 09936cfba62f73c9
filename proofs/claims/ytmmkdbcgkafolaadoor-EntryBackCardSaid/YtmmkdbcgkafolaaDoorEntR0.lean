
/-
  staitheref12: within, Check.
-/
import Derived.Test.YtmmkdbcgkafolaaDoorEntB
import Derived.Test.YtmmkdbcgkafolaaDoorEntP
import Derived.Deep.DeepCutAuto
import Derived.Deep.CutBlock
import Derived.Deep.Light
namespace Go.Proofs.YtmmkdbcgkafolaaDoor
open Go.RowKit
set_option linter.unusedVariables false
set_option linter.unusedSimpArgs false
set_option maxRecDepth 100000

theorem within_any (n l m : Int) (w : World) (x : Bool) (hx : decide (l ≤ n ∧ n ≤ m) = x) :
    Calls Tryd.prog 28 #[.int .i64 n, .int .i64 l, .int .i64 m] w fun r w' => r = .returned (.bool x) ∧ w = w' := by
  by_cases h0 : l ≤ n
  · by_cases h1 : n ≤ m
    · have e : x = true := by rw [← hx]; exact decide_eq_true ⟨h0, h1⟩
      subst e
      clear hx
      go_enter Tryd.func28, Tryd.ntmps28
      go_wp2_with fail
      go_ret
      exact ⟨rfl, rfl⟩
    · have e : x = false := by rw [← hx]; exact decide_eq_false (fun h => h1 h.2)
      subst e
      have h1' : m < n := by omega
      have h2' : decide (n ≤ m) = false := decide_eq_false (by omega)
      clear hx h1
      go_enter Tryd.func28, Tryd.ntmps28
      go_wp2_with fail
      go_ret
      exact ⟨rfl, rfl⟩
  · have e : x = false := by rw [← hx]; exact decide_eq_false (fun h => h0 h.1)
    subst e
    have h0' : n < l := by omega
    clear hx h0
    go_enter Tryd.func28, Tryd.ntmps28
    go_wp2_with fail
    go_ret
    exact ⟨rfl, rfl⟩

/-- What the answer looks at. -/
structure Lk where
  c3 : Bool
  c4 : Bool
  c5 : Bool
  c6 : Bool
  c7 : Bool
  c8 : Bool
  c9 : Bool
  sd : Bool
  ok : Bool
  z : Bool
  u : Bool
  w7 : Bool
  w4 : Bool
  k4 : Bool
/-- The document's answer of a kind, out of what it looks at. -/
def rok (k : Int) (x : Lk) : Bool :=
  let p := !x.sd && !x.ok
  if k = 1 then x.c3 && x.c5 && x.w7 && x.c8 && p
  else if k = 2 then x.c4 && x.c5 && x.w4 && x.c7 && p
  else if k = 3 then x.c4 && x.c6 && x.c9 && (x.c7 || x.c8) && x.sd && !x.ok
  else if k = 4 then x.c4 && x.c6 && x.c9 && (x.c7 || x.c8) && !x.sd && (x.ok || x.z && x.c7)
  else if k = 5 then x.c4 && x.c5 && x.u && x.c7 && p
  else if k = 6 then (x.c5 && (x.c3 || x.c4) && (x.sd && x.c9 || !x.sd && x.z) || x.k4 && x.c3 && !x.sd && x.z) && x.c7 && !x.ok
  else if k = 7 then x.c4 && x.c6 && x.c9 && x.c8 && (x.ok || !x.sd && x.z)
  else if k = 9 ∨ k = 10 then x.c3 && x.c5 && x.w7 && x.c7 && p
  else x.c3 && x.c5 && x.u && x.c7 && p
def lkOf (e : Ev) : Lk := ⟨e.ch == -1, decide (0 ≤ e.ch ∧ e.ch ≤ 511), e.cs == -1, decide (-1 ≤ e.cs ∧ e.cs ≤ 3), e.ma == -1, decide (0 ≤ e.ma ∧ e.ma ≤ 511), decide (0 ≤ e.va ∧ e.va ≤ 99), e.sd, e.ok, e.va == 0, e.va == -1, decide (0 ≤ e.va ∧ e.va ≤ 7), decide (0 ≤ e.va ∧ e.va ≤ 4), decide (0 ≤ e.cs ∧ e.cs ≤ 4)⟩
def rokB (e : Ev) : Bool := rok e.kind (lkOf e) && (if e.kind = 13 then e.g == -1 else decide (0 ≤ e.g ∧ e.g ≤ 511))

/-- The plain law: both say the same of each kind. -/
theorem rok_eq (e : Ev) (h0 : 1 ≤ e.kind) (h1 : e.kind ≤ 13) : rokB e = okB e := by
  obtain ⟨k, g, ch, cs, va, ma, sd, ok⟩ := e
  dsimp only at h0 h1
  have hk : k = 1 ∨ k = 2 ∨ k = 3 ∨ k = 4 ∨ k = 5 ∨ k = 6 ∨ k = 7 ∨ k = 8 ∨ k = 9 ∨ k = 10 ∨ k = 11 ∨ k = 12 ∨ k = 13 := by omega
  rcases hk with rfl | rfl | rfl | rfl | rfl | rfl | rfl | rfl | rfl | rfl | rfl | rfl | rfl
  all_goals
    cases sd <;> cases ok
    all_goals
      simp only [rokB, rok, lkOf, okB, preB, pre0, spanAt, fieldAt, shp, oddB, inB]
      rw [Bool.eq_iff_iff]
      first
        | (simp; done)
        | (simp; omega)

theorem chk_good (e : Ev) (h0 : 1 ≤ e.kind) (h1 : e.kind ≤ 13) : chk e = if rokB e then 0 else 4 := by
  rw [rok_eq e h0 h1]
  exact if_neg (by omega)

theorem rcheck_bad (e : Ev) (w : World) (h : e.kind < 1 ∨ 13 < e.kind) : Calls Tryd.prog 12 #[evV e] w fun r w' => r = .returned (.int .i64 (chk e)) ∧ Below w.heap.size w w' := by
  have E := Lib.hid (show chk e = 1 from if_pos h)
  obtain ⟨k, g, ch, cs, va, ma, sd, ok⟩ := e
  unfold evV
  dsimp only at h ⊢
  rw [E.out]
  rcases h with h | h
  · go_enter Tryd.func12, Tryd.ntmps12
    go_wp2_with fail
    go_ret
    exact ⟨rfl, below1 _ _⟩
  · go_enter Tryd.func12, Tryd.ntmps12
    go_wp2_with fail
    all_goals (go_ret; exact ⟨rfl, below1 _ _⟩)

end Go.Proofs.YtmmkdbcgkafolaaDoor

