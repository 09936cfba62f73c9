
/-
  Package report: what each method answers on no report, and to what is not well formed.
-/
import Derived.Test.YtkcnbkdpjlpppaaCelK
namespace Go.Proofs.Ytkcnbkdpjlpppaa
open Go.RowKit
set_option linter.unusedVariables false
set_option linter.unusedSimpArgs false
set_option maxRecDepth 100000

def isC (c : Int) : Bool := decide (0 ≤ c ∧ c < 8)
theorem is_any (c : Int) (w : World) : Calls Try.prog 21 #[.int .i64 c] w fun r w' => r = .returned (.bool (isC c)) ∧ w = w' := by
  obtain ⟨k, hk⟩ : ∃ k, isC c = k := ⟨_, rfl⟩
  rw [hk]
  have hh : (k = false ∧ c < 0 ∧ ¬ 0 ≤ c) ∨ (k = false ∧ 0 ≤ c ∧ ¬ c < 8) ∨ (k = true ∧ 0 ≤ c ∧ c < 8) := by
    by_cases h1 : 0 ≤ c
    · by_cases h2 : c < 8
      · exact .inr (.inr ⟨by rw [← hk]; exact decide_eq_true ⟨h1, h2⟩, h1, h2⟩)
      · exact .inr (.inl ⟨by rw [← hk]; exact decide_eq_false (by omega), h1, h2⟩)
    · exact .inl ⟨by rw [← hk]; exact decide_eq_false (by omega), by omega, h1⟩
  clear hk
  rcases hh with ⟨rfl, h1, h2⟩ | ⟨rfl, h1, h2⟩ | ⟨rfl, h1, h2⟩ <;> (
    go_enter Try.func21, Try.ntmps21
    go_wp2_with fail
    go_ret
    exact ⟨rfl, rfl⟩)

/-- An access: where it stands (two numbers), which cell, whether it writes. -/
structure Acc where
  a : Int
  b : Int
  c : Int
  wr : Bool
def accV (x : Acc) : Value := .agg #[.int .i64 x.a, .int .i64 x.b, .int .i64 x.c, .bool x.wr]
/-- Well formed. -/
def fitA (x : Acc) (e : Int) : Bool := isC x.c && decide (0 ≤ x.a) && decide (0 ≤ x.b) && okE e
theorem fit_cases (x : Acc) (e : Int) : (fitA x e = false ∧ (isC x.c = false ∨ (isC x.c = true ∧ x.a < 0) ∨ (isC x.c = true ∧ ¬ x.a < 0 ∧ x.b < 0) ∨ (isC x.c = true ∧ ¬ x.a < 0 ∧ ¬ x.b < 0 ∧ tidE e < 0))) ∨ (fitA x e = true ∧ isC x.c = true ∧ ¬ x.a < 0 ∧ ¬ x.b < 0 ∧ ¬ tidE e < 0) := by
  unfold fitA
  cases h1 : isC x.c with
  | false => exact .inl ⟨rfl, .inl rfl⟩
  | true =>
    by_cases h2 : x.a < 0
    · exact .inl ⟨by simp; omega, .inr (.inl ⟨rfl, h2⟩)⟩
    · by_cases h3 : x.b < 0
      · exact .inl ⟨by simp; omega, .inr (.inr (.inl ⟨rfl, h2, h3⟩))⟩
      · cases h4 : okE e with
        | false => exact .inl ⟨by simp, .inr (.inr (.inr ⟨rfl, h2, h3, tidE_lt.2 h4⟩))⟩
        | true => exact .inr ⟨by simp; omega, rfl, h2, h3, fun h => by rw [tidE_lt.1 h] at h4; cases h4⟩
theorem four_new {w W : World} {t : TypeId} {a0 a1 a2 a3 : Value} (hW : w.alloc (.cells #[a0, a1, a2, a3] t) = W) : Below w.heap.size w W ∧ W.cell? ⟨w.heap.size, 0, none⟩ = some a0 ∧ W.cell? ⟨w.heap.size, 1, none⟩ = some a1 ∧ W.cell? ⟨w.heap.size, 2, none⟩ = some a2 ∧ W.cell? ⟨w.heap.size, 3, none⟩ = some a3 := by
  subst hW
  have h := heap_alloc_new w (.cells #[a0, a1, a2, a3] t)
  refine ⟨(Below.refl _ _).alloc (Nat.le_refl _) _, ?_, ?_, ?_, ?_⟩ <;> (simp only [World.cell?, h]; rfl)

set_option maxHeartbeats 1000000 in
theorem rput_bad (v : Value) (ac : Option Addr) (x : Acc) (e : Int) (w : World) (hu : U64 e) (h : fitA x e = false) : Calls Try.prog 7 #[v, accV x, .int .u64 e, .pointer ac] w fun r w' => r = .returned (.tuple #[.bool false, .int .i64 1]) ∧ Below w.heap.size w w' := by
  rcases fit_cases x e with ⟨_, hh⟩ | ⟨h2, _⟩
  case inr => rw [h] at h2; cases h2
  obtain ⟨a, b, c, wr⟩ := x
  dsimp only at hh
  unfold accV
  dsimp only
  obtain ⟨W, hW⟩ : ∃ W, w.alloc (.cells #[.int .i64 a, .int .i64 b, .int .i64 c, .bool wr] 23) = W := ⟨_, rfl⟩
  obtain ⟨b1, c0, c1, c2, c3⟩ := four_new hW
  have B1 := Lib.hid b1
  have HW := Lib.hid hW
  have IS := Lib.hid (is_any c W)
  have TI := Lib.hid (etid_of e W hu)
  obtain ⟨k, hk⟩ : ∃ k, isC c = k := ⟨_, rfl⟩
  obtain ⟨t, ht⟩ : ∃ t, tidE e = t := ⟨_, rfl⟩
  rw [hk] at IS hh
  rw [ht] at TI hh
  clear b1 hW h hu hk ht
  rcases hh with rfl | ⟨rfl, h1⟩ | ⟨rfl, h1, h2⟩ | ⟨rfl, h1, h2, h3⟩
  all_goals
    go_enter Try.func7, Try.ntmps7
    go_upto_region 1 with fail
    rw [HW.out]
    go_wp2_with fail
    refine IS.out.mono ?_
    rintro r w' ⟨rfl, rfl⟩
    go_wp2_with (go_at_call 22; refine TI.out.mono ?_; rintro r w' ⟨rfl, rfl⟩)
    go_ret2
    exact ⟨rfl, B1.out⟩
theorem rput_nil (ac : Option Addr) (x : Acc) (e : Int) (w : World) (hu : U64 e) (h : fitA x e = true) : Calls Try.prog 7 #[.pointer none, accV x, .int .u64 e, .pointer ac] w fun r w' => r = .returned (.tuple #[.bool false, .int .i64 7]) ∧ Below w.heap.size w w' := by
  rcases fit_cases x e with ⟨h2, _⟩ | ⟨_, k, h1, h2, h3⟩
  case inl => rw [h] at h2; cases h2
  obtain ⟨a, b, c, wr⟩ := x
  dsimp only at k h1 h2
  unfold accV
  dsimp only
  obtain ⟨W, hW⟩ : ∃ W, w.alloc (.cells #[.int .i64 a, .int .i64 b, .int .i64 c, .bool wr] 23) = W := ⟨_, rfl⟩
  obtain ⟨b1, c0, c1, c2, c3⟩ := four_new hW
  have B1 := Lib.hid b1
  have HW := Lib.hid hW
  have IS := Lib.hid (is_any c W)
  have TI := Lib.hid (etid_of e W hu)
  rw [k] at IS
  obtain ⟨t, ht⟩ : ∃ t, tidE e = t := ⟨_, rfl⟩
  rw [ht] at TI h3
  clear b1 hW h hu ht k
  go_enter Try.func7, Try.ntmps7
  go_upto_region 1 with fail
  rw [HW.out]
  go_wp2_with fail
  refine IS.out.mono ?_
  rintro r w' ⟨rfl, rfl⟩
  go_wp2_with fail
  refine TI.out.mono ?_
  rintro r w' ⟨rfl, rfl⟩
  go_wp2_with fail
  go_ret2
  exact ⟨rfl, B1.out⟩
theorem rret_nil (tid cut : Int) (w : World) : Calls Try.prog 9 #[.pointer none, .int .i64 tid, .int .i64 cut] w fun r w' => r = .returned (.int .i64 (if retBad tid cut then 1 else 7)) ∧ Below w.heap.size w w' := by
  have R3 := Lib.hid (show ∀ X, Calls Try.prog 25 #[.pointer none, .int .i64 tid, .int .i64 cut] X fun r w' => r = .returned (.int .i64 (if retBad tid cut then 1 else 7)) ∧ Below X.heap.size X w' from fun X => by
    cases hb : retBad tid cut with
    | true => exact cret_bad none tid cut X hb
    | false => exact cret_nil tid cut X hb)
  obtain ⟨z, hz⟩ : ∃ z : Int, (if retBad tid cut then 1 else 7) = z := ⟨_, rfl⟩
  rw [hz] at R3 ⊢
  clear hz
  go_enter Try.func9, Try.ntmps9
  go_wp2_with fail
  refine (R3.out w).mono ?_
  rintro r w2 ⟨rfl, hb2⟩
  have B2 := Lib.hid hb2
  clear hb2
  go_wp2_with fail
  go_ret
  exact ⟨rfl, B2.out⟩
theorem rcell_nil (c : Int) (w : World) : Calls Try.prog 12 #[.pointer none, .int .i64 c] w fun r w' => r = .returned (.pointer none) ∧ w = w' := by
  go_enter Try.func12, Try.ntmps12
  go_wp2_with fail
  go_ret
  exact ⟨rfl, rfl⟩
end Go.Proofs.Ytkcnbkdpjlpppaa

