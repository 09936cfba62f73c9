
/-
  Package deed: operations in plain words; limits, below, fits, bit.
-/
import Derived.Test.YtpefjcmaggimhaaList
import Derived.Test.YtpefjcmaggimhaaBldS
namespace Go.Proofs.Ytpefjcmaggimhaa
open Go.RowKit
set_option linter.unusedVariables false
set_option linter.unusedSimpArgs false
set_option maxRecDepth 100000
@[local go_sem] theorem k_max2_int (k k' : IntKind) (x y : Int) : Builtin.max2 (.int k x) (.int k' y) = pure (.int k (if x < y then y else x)) := by simp only [Builtin.max2, gt_iff_lt]
@[local go_sem] theorem k_max_two (ats : Array TypeId) (ty : TypeId) (a b : Value) : Builtin.max_ ats ty #[a, b] = (Builtin.max2 a b >>= fun s => pure s) := by simp only [Builtin.max_, List.foldlM_cons, List.foldlM_nil]

/-- A case of a select. -/
structure Cs where
  sd : Bool
  ch : Int
  va : Int
deriving DecidableEq
instance : Inhabited Cs := ⟨⟨false, 0, 0⟩⟩
/-- An operation. -/
structure Opn where
  k : Int
  a : Int
  b : Int
  cs : List Cs
  df : Bool
deriving DecidableEq
def limA (k p : Int) : Int := if k = 1 then p else if k = 2 ∨ k = 3 ∨ k = 4 ∨ k = 5 ∨ k = 7 ∨ k = 8 then 8 else 0
def limB (k : Int) : Int := if k = 2 then 5 else if k = 3 then 100 else 0
def belB (n m : Int) : Bool := decide (0 ≤ n ∧ n < m)
def fitB (n m : Int) : Bool := belB n (if 1 < m then m else 1)

theorem lim1 (p : Int) (w : World) : Calls Try.prog 61 #[.int .i64 1, .int .i64 p] w fun r w' => r = .returned (.tuple #[.int .i64 p, .int .i64 0]) ∧ w' = w := by
  go_enter Try.func61, Try.ntmps61
  go_wp2_with fail
  go_ret2
  exact ⟨rfl, rfl⟩
theorem lim2 (p : Int) (w : World) : Calls Try.prog 61 #[.int .i64 2, .int .i64 p] w fun r w' => r = .returned (.tuple #[.int .i64 8, .int .i64 5]) ∧ w' = w := by
  go_enter Try.func61, Try.ntmps61
  go_wp2_with fail
  go_ret2
  exact ⟨rfl, rfl⟩
theorem lim3 (p : Int) (w : World) : Calls Try.prog 61 #[.int .i64 3, .int .i64 p] w fun r w' => r = .returned (.tuple #[.int .i64 8, .int .i64 100]) ∧ w' = w := by
  go_enter Try.func61, Try.ntmps61
  go_wp2_with fail
  go_ret2
  exact ⟨rfl, rfl⟩
theorem lim4 (p : Int) (w : World) : Calls Try.prog 61 #[.int .i64 4, .int .i64 p] w fun r w' => r = .returned (.tuple #[.int .i64 8, .int .i64 0]) ∧ w' = w := by
  go_enter Try.func61, Try.ntmps61
  go_wp2_with fail
  go_ret2
  exact ⟨rfl, rfl⟩
theorem lim5 (p : Int) (w : World) : Calls Try.prog 61 #[.int .i64 5, .int .i64 p] w fun r w' => r = .returned (.tuple #[.int .i64 8, .int .i64 0]) ∧ w' = w := by
  go_enter Try.func61, Try.ntmps61
  go_wp2_with fail
  go_ret2
  exact ⟨rfl, rfl⟩
theorem lim7 (p : Int) (w : World) : Calls Try.prog 61 #[.int .i64 7, .int .i64 p] w fun r w' => r = .returned (.tuple #[.int .i64 8, .int .i64 0]) ∧ w' = w := by
  go_enter Try.func61, Try.ntmps61
  go_wp2_with fail
  go_ret2
  exact ⟨rfl, rfl⟩
theorem lim8 (p : Int) (w : World) : Calls Try.prog 61 #[.int .i64 8, .int .i64 p] w fun r w' => r = .returned (.tuple #[.int .i64 8, .int .i64 0]) ∧ w' = w := by
  go_enter Try.func61, Try.ntmps61
  go_wp2_with fail
  go_ret2
  exact ⟨rfl, rfl⟩
theorem lim_other (k p : Int) (w : World) (k1 : (k == 1) = false) (k2 : (k == 2) = false) (k3 : (k == 3) = false) (k4 : (k == 4) = false) (k5 : (k == 5) = false) (k7 : (k == 7) = false) (k8 : (k == 8) = false) :
    Calls Try.prog 61 #[.int .i64 k, .int .i64 p] w fun r w' => r = .returned (.tuple #[.int .i64 0, .int .i64 0]) ∧ w' = w := by
  go_enter Try.func61, Try.ntmps61
  go_wp2_with fail
  go_ret2
  exact ⟨rfl, rfl⟩
theorem limits_any (k p : Int) (w : World) : Calls Try.prog 61 #[.int .i64 k, .int .i64 p] w fun r w' => r = .returned (.tuple #[.int .i64 (limA k p), .int .i64 (limB k)]) ∧ w' = w := by
  by_cases h1 : k = 1
  · subst h1; exact lim1 p w
  by_cases h2 : k = 2
  · subst h2; exact lim2 p w
  by_cases h3 : k = 3
  · subst h3; exact lim3 p w
  by_cases h4 : k = 4
  · subst h4; exact lim4 p w
  by_cases h5 : k = 5
  · subst h5; exact lim5 p w
  by_cases h7 : k = 7
  · subst h7; exact lim7 p w
  by_cases h8 : k = 8
  · subst h8; exact lim8 p w
  have e1 : limA k p = 0 := by unfold limA; rw [if_neg h1, if_neg (by omega)]
  have e2 : limB k = 0 := by unfold limB; rw [if_neg h2, if_neg h3]
  rw [e1, e2]
  refine lim_other k p w ?_ ?_ ?_ ?_ ?_ ?_ ?_ <;> simpa

theorem below_any (n m : Int) (w : World) (x : Bool) (hx : belB n m = x) : Calls Try.prog 63 #[.int .i64 n, .int .i64 m] w fun r w' => r = .returned (.bool x) ∧ w' = w := by
  by_cases h0 : 0 ≤ n
  · by_cases h1 : n < m
    · have e : x = true := by rw [← hx]; exact decide_eq_true ⟨h0, h1⟩
      subst e
      clear hx
      go_enter Try.func63, Try.ntmps63
      go_wp2_with fail
      go_ret
      exact ⟨rfl, rfl⟩
    · have e : x = false := by rw [← hx]; exact decide_eq_false (fun h => h1 h.2)
      subst e
      have h2' : decide (n < m) = false := decide_eq_false (by omega)
      clear hx h1
      go_enter Try.func63, Try.ntmps63
      go_wp2_with fail
      go_ret
      exact ⟨rfl, rfl⟩
  · have e : x = false := by rw [← hx]; exact decide_eq_false (fun h => h0 h.1)
    subst e
    have h0' : n < 0 := by omega
    clear hx h0
    go_enter Try.func63, Try.ntmps63
    go_wp2_with fail
    go_ret
    exact ⟨rfl, rfl⟩
theorem fits_any (n m : Int) (w : World) (x : Bool) (hx : fitB n m = x) : Calls Try.prog 62 #[.int .i64 n, .int .i64 m] w fun r w' => r = .returned (.bool x) ∧ w' = w := by
  have P := fun m' h => Lib.hid (fun w => below_any n m' w x h)
  unfold fitB at hx
  by_cases hm : 1 < m
  · rw [if_pos hm] at hx
    have P1 := P m hx
    clear P hx
    go_enter Try.func62, Try.ntmps62
    go_wp2_with fail
    refine (P1.out _).mono ?_
    rintro r w1 ⟨rfl, rfl⟩
    go_wp2_with fail
    go_ret
    exact ⟨rfl, rfl⟩
  · rw [if_neg hm] at hx
    have P1 := P 1 hx
    clear P hx
    go_enter Try.func62, Try.ntmps62
    go_wp2_with fail
    refine (P1.out _).mono ?_
    rintro r w1 ⟨rfl, rfl⟩
    go_wp2_with fail
    go_ret
    exact ⟨rfl, rfl⟩
def bitI (b : Bool) : Int := if b then 1 else 0
theorem bit_any (b : Bool) (w : World) : Calls Try.prog 73 #[.bool b] w fun r w' => r = .returned (.int .i64 (bitI b)) ∧ w' = w := by
  cases b
  all_goals
    go_enter Try.func73, Try.ntmps73
    go_wp2_with fail
    go_ret
    exact ⟨rfl, rfl⟩
theorem rbit_any (b : Bool) (w : World) : Calls Try.prog 74 #[.bool b] w fun r w' => r = .returned (.int .i64 (bitI b)) ∧ w' = w := by
  cases b
  all_goals
    go_enter Try.func74, Try.ntmps74
    go_wp2_with fail
    go_ret
    exact ⟨rfl, rfl⟩
end Go.Proofs.Ytpefjcmaggimhaa

