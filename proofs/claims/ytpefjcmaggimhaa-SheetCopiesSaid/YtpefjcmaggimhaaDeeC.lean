
/-
  The reference of layer 4: row, within, Check.
-/
import Derived.Test.YtpefjcmaggimhaaDeeB
import Derived.Deep.RegionHeld3
namespace Go.Proofs.Ytpefjcmaggimhaa
open Go.RowKit
set_option linter.unusedVariables false
set_option linter.unusedSimpArgs false
set_option maxRecDepth 100000

def rA (k : Int) : UInt8 := if k = 1 then 112 else if k = 6 ∨ k = 9 then 46 else if k = 7 ∨ k = 8 then 120 else 99
def rB (k : Int) : UInt8 := if k = 2 then 109 else if k = 3 then 118 else 46
theorem row_1 (w : World) : Calls Try.prog 64 #[.int .i64 1] w fun r w' => r = .returned (bs [rA 1, rB 1]) ∧ Below w.heap.size w w' := by
  go_enter Try.func64, Try.ntmps64
  go_wp2_with fail
  go_ret
  exact ⟨rfl, below1 _ _⟩
theorem row_2 (w : World) : Calls Try.prog 64 #[.int .i64 2] w fun r w' => r = .returned (bs [rA 2, rB 2]) ∧ Below w.heap.size w w' := by
  go_enter Try.func64, Try.ntmps64
  go_wp2_with fail
  go_ret
  exact ⟨rfl, below1 _ _⟩
theorem row_3 (w : World) : Calls Try.prog 64 #[.int .i64 3] w fun r w' => r = .returned (bs [rA 3, rB 3]) ∧ Below w.heap.size w w' := by
  go_enter Try.func64, Try.ntmps64
  go_wp2_with fail
  go_ret
  exact ⟨rfl, below1 _ _⟩
theorem row_4 (w : World) : Calls Try.prog 64 #[.int .i64 4] w fun r w' => r = .returned (bs [rA 4, rB 4]) ∧ Below w.heap.size w w' := by
  go_enter Try.func64, Try.ntmps64
  go_wp2_with fail
  go_ret
  exact ⟨rfl, below1 _ _⟩
theorem row_5 (w : World) : Calls Try.prog 64 #[.int .i64 5] w fun r w' => r = .returned (bs [rA 5, rB 5]) ∧ Below w.heap.size w w' := by
  go_enter Try.func64, Try.ntmps64
  go_wp2_with fail
  go_ret
  exact ⟨rfl, below1 _ _⟩
theorem row_6 (w : World) : Calls Try.prog 64 #[.int .i64 6] w fun r w' => r = .returned (bs [rA 6, rB 6]) ∧ Below w.heap.size w w' := by
  go_enter Try.func64, Try.ntmps64
  go_wp2_with fail
  go_ret
  exact ⟨rfl, below1 _ _⟩
theorem row_7 (w : World) : Calls Try.prog 64 #[.int .i64 7] w fun r w' => r = .returned (bs [rA 7, rB 7]) ∧ Below w.heap.size w w' := by
  go_enter Try.func64, Try.ntmps64
  go_wp2_with fail
  go_ret
  exact ⟨rfl, below1 _ _⟩
theorem row_8 (w : World) : Calls Try.prog 64 #[.int .i64 8] w fun r w' => r = .returned (bs [rA 8, rB 8]) ∧ Below w.heap.size w w' := by
  go_enter Try.func64, Try.ntmps64
  go_wp2_with fail
  go_ret
  exact ⟨rfl, below1 _ _⟩
theorem row_9 (w : World) : Calls Try.prog 64 #[.int .i64 9] w fun r w' => r = .returned (bs [rA 9, rB 9]) ∧ Below w.heap.size w w' := by
  go_enter Try.func64, Try.ntmps64
  go_wp2_with fail
  go_ret
  exact ⟨rfl, below1 _ _⟩
theorem row_any (k : Int) (h1 : 1 ≤ k) (h9 : k ≤ 9) (w : World) : Calls Try.prog 64 #[.int .i64 k] w fun r w' => r = .returned (bs [rA k, rB k]) ∧ Below w.heap.size w w' := by
  have : k = 1 ∨ k = 2 ∨ k = 3 ∨ k = 4 ∨ k = 5 ∨ k = 6 ∨ k = 7 ∨ k = 8 ∨ k = 9 := by omega
  rcases this with rfl | rfl | rfl | rfl | rfl | rfl | rfl | rfl | rfl
  · exact row_1 w
  · exact row_2 w
  · exact row_3 w
  · exact row_4 w
  · exact row_5 w
  · exact row_6 w
  · exact row_7 w
  · exact row_8 w
  · exact row_9 w

/-- Is a number one that a sign says? -/
def winB (n : Int) (s : UInt8) (p : Int) : Bool := if s = 112 then belB n p else if s = 99 ∨ s = 120 then belB n 8 else if s = 109 then belB n 5 else if s = 118 then belB n 100 else n == 0
theorem win_p (n p : Int) (w : World) (x : Bool) (hx : belB n p = x) : Calls Try.prog 65 #[.int .i64 n, .int .u8 112, .int .i64 p] w fun r w' => r = .returned (.bool x) ∧ w' = w := by
  by_cases h0 : 0 ≤ n
  · by_cases h1 : n < p
    · have e : x = true := by rw [← hx]; exact decide_eq_true ⟨h0, h1⟩
      have h2 : decide (n < p) = true := decide_eq_true (by omega)
      subst e
      clear hx
      go_enter Try.func65, Try.ntmps65
      go_wp2_with fail
      go_ret
      exact ⟨rfl, rfl⟩
    · have e : x = false := by rw [← hx]; exact decide_eq_false (fun h => h1 h.2)
      have h2 : decide (n < p) = false := decide_eq_false (by omega)
      subst e
      clear hx h1
      go_enter Try.func65, Try.ntmps65
      go_wp2_with fail
      go_ret
      exact ⟨rfl, rfl⟩
  · have e : x = false := by rw [← hx]; exact decide_eq_false (fun h => h0 h.1)
    have h0' : n < 0 := by omega
    subst e
    clear hx h0
    go_enter Try.func65, Try.ntmps65
    go_wp2_with fail
    go_ret
    exact ⟨rfl, rfl⟩
theorem win_c (n p : Int) (w : World) (x : Bool) (hx : belB n 8 = x) : Calls Try.prog 65 #[.int .i64 n, .int .u8 99, .int .i64 p] w fun r w' => r = .returned (.bool x) ∧ w' = w := by
  by_cases h0 : 0 ≤ n
  · by_cases h1 : n < 8
    · have e : x = true := by rw [← hx]; exact decide_eq_true ⟨h0, h1⟩
      have h2 : decide (n < 8) = true := decide_eq_true (by omega)
      subst e
      clear hx
      go_enter Try.func65, Try.ntmps65
      go_wp2_with fail
      go_ret
      exact ⟨rfl, rfl⟩
    · have e : x = false := by rw [← hx]; exact decide_eq_false (fun h => h1 h.2)
      have h2 : decide (n < 8) = false := decide_eq_false (by omega)
      subst e
      clear hx h1
      go_enter Try.func65, Try.ntmps65
      go_wp2_with fail
      go_ret
      exact ⟨rfl, rfl⟩
  · have e : x = false := by rw [← hx]; exact decide_eq_false (fun h => h0 h.1)
    have h0' : n < 0 := by omega
    subst e
    clear hx h0
    go_enter Try.func65, Try.ntmps65
    go_wp2_with fail
    go_ret
    exact ⟨rfl, rfl⟩
theorem win_x (n p : Int) (w : World) (x : Bool) (hx : belB n 8 = x) : Calls Try.prog 65 #[.int .i64 n, .int .u8 120, .int .i64 p] w fun r w' => r = .returned (.bool x) ∧ w' = w := by
  by_cases h0 : 0 ≤ n
  · by_cases h1 : n < 8
    · have e : x = true := by rw [← hx]; exact decide_eq_true ⟨h0, h1⟩
      have h2 : decide (n < 8) = true := decide_eq_true (by omega)
      subst e
      clear hx
      go_enter Try.func65, Try.ntmps65
      go_wp2_with fail
      go_ret
      exact ⟨rfl, rfl⟩
    · have e : x = false := by rw [← hx]; exact decide_eq_false (fun h => h1 h.2)
      have h2 : decide (n < 8) = false := decide_eq_false (by omega)
      subst e
      clear hx h1
      go_enter Try.func65, Try.ntmps65
      go_wp2_with fail
      go_ret
      exact ⟨rfl, rfl⟩
  · have e : x = false := by rw [← hx]; exact decide_eq_false (fun h => h0 h.1)
    have h0' : n < 0 := by omega
    subst e
    clear hx h0
    go_enter Try.func65, Try.ntmps65
    go_wp2_with fail
    go_ret
    exact ⟨rfl, rfl⟩
theorem win_m (n p : Int) (w : World) (x : Bool) (hx : belB n 5 = x) : Calls Try.prog 65 #[.int .i64 n, .int .u8 109, .int .i64 p] w fun r w' => r = .returned (.bool x) ∧ w' = w := by
  by_cases h0 : 0 ≤ n
  · by_cases h1 : n < 5
    · have e : x = true := by rw [← hx]; exact decide_eq_true ⟨h0, h1⟩
      have h2 : decide (n ≤ 4) = true := decide_eq_true (by omega)
      subst e
      clear hx
      go_enter Try.func65, Try.ntmps65
      go_wp2_with fail
      go_ret
      exact ⟨rfl, rfl⟩
    · have e : x = false := by rw [← hx]; exact decide_eq_false (fun h => h1 h.2)
      have h2 : decide (n ≤ 4) = false := decide_eq_false (by omega)
      subst e
      clear hx h1
      go_enter Try.func65, Try.ntmps65
      go_wp2_with fail
      go_ret
      exact ⟨rfl, rfl⟩
  · have e : x = false := by rw [← hx]; exact decide_eq_false (fun h => h0 h.1)
    have h0' : n < 0 := by omega
    subst e
    clear hx h0
    go_enter Try.func65, Try.ntmps65
    go_wp2_with fail
    go_ret
    exact ⟨rfl, rfl⟩
theorem win_v (n p : Int) (w : World) (x : Bool) (hx : belB n 100 = x) : Calls Try.prog 65 #[.int .i64 n, .int .u8 118, .int .i64 p] w fun r w' => r = .returned (.bool x) ∧ w' = w := by
  by_cases h0 : 0 ≤ n
  · by_cases h1 : n < 100
    · have e : x = true := by rw [← hx]; exact decide_eq_true ⟨h0, h1⟩
      have h2 : decide (n ≤ 99) = true := decide_eq_true (by omega)
      subst e
      clear hx
      go_enter Try.func65, Try.ntmps65
      go_wp2_with fail
      go_ret
      exact ⟨rfl, rfl⟩
    · have e : x = false := by rw [← hx]; exact decide_eq_false (fun h => h1 h.2)
      have h2 : decide (n ≤ 99) = false := decide_eq_false (by omega)
      subst e
      clear hx h1
      go_enter Try.func65, Try.ntmps65
      go_wp2_with fail
      go_ret
      exact ⟨rfl, rfl⟩
  · have e : x = false := by rw [← hx]; exact decide_eq_false (fun h => h0 h.1)
    have h0' : n < 0 := by omega
    subst e
    clear hx h0
    go_enter Try.func65, Try.ntmps65
    go_wp2_with fail
    go_ret
    exact ⟨rfl, rfl⟩
theorem win_dot (n p : Int) (w : World) (x : Bool) (hx : (n == 0) = x) : Calls Try.prog 65 #[.int .i64 n, .int .u8 46, .int .i64 p] w fun r w' => r = .returned (.bool x) ∧ w' = w := by
  go_enter Try.func65, Try.ntmps65
  go_wp2_with fail
  go_ret
  exact ⟨rfl, rfl⟩
theorem win_A (n k p : Int) (h1 : 1 ≤ k) (h9 : k ≤ 9) (hp : 1 ≤ p) (w : World) (x : Bool) (hx : fitB n (limA k p) = x) : Calls Try.prog 65 #[.int .i64 n, .int .u8 ((rA k).toNat : Int), .int .i64 p] w fun r w' => r = .returned (.bool x) ∧ w' = w := by
  have z : belB n 1 = (n == 0) := by
    unfold belB
    by_cases h : n = 0
    · subst h; rfl
    · rw [decide_eq_false (by omega)]; exact (by simpa using h : (n == 0) = false).symm
  have : k = 1 ∨ k = 2 ∨ k = 3 ∨ k = 4 ∨ k = 5 ∨ k = 6 ∨ k = 7 ∨ k = 8 ∨ k = 9 := by omega
  rcases this with rfl | rfl | rfl | rfl | rfl | rfl | rfl | rfl | rfl
  · have e : fitB n (limA 1 p) = belB n p := by
      show belB n (if 1 < p then p else 1) = belB n p
      split
      · rfl
      · rw [show p = 1 by omega]
    exact win_p n p w x (by rw [← e]; exact hx)
  · exact win_c n p w x hx
  · exact win_c n p w x hx
  · exact win_c n p w x hx
  · exact win_c n p w x hx
  · exact win_dot n p w x (by rw [← z]; exact hx)
  · exact win_x n p w x hx
  · exact win_x n p w x hx
  · exact win_dot n p w x (by rw [← z]; exact hx)
theorem win_B (n k p : Int) (h1 : 1 ≤ k) (h9 : k ≤ 9) (w : World) (x : Bool) (hx : fitB n (limB k) = x) : Calls Try.prog 65 #[.int .i64 n, .int .u8 ((rB k).toNat : Int), .int .i64 p] w fun r w' => r = .returned (.bool x) ∧ w' = w := by
  have z : belB n 1 = (n == 0) := by
    unfold belB
    by_cases h : n = 0
    · subst h; rfl
    · rw [decide_eq_false (by omega)]; exact (by simpa using h : (n == 0) = false).symm
  have : k = 1 ∨ k = 2 ∨ k = 3 ∨ k = 4 ∨ k = 5 ∨ k = 6 ∨ k = 7 ∨ k = 8 ∨ k = 9 := by omega
  rcases this with rfl | rfl | rfl | rfl | rfl | rfl | rfl | rfl | rfl
  · exact win_dot n p w x (by rw [← z]; exact hx)
  · exact win_m n p w x hx
  · exact win_v n p w x hx
  · exact win_dot n p w x (by rw [← z]; exact hx)
  · exact win_dot n p w x (by rw [← z]; exact hx)
  · exact win_dot n p w x (by rw [← z]; exact hx)
  · exact win_dot n p w x (by rw [← z]; exact hx)
  · exact win_dot n p w x (by rw [← z]; exact hx)
  · exact win_dot n p w x (by rw [← z]; exact hx)
end Go.Proofs.Ytpefjcmaggimhaa

