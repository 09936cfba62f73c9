
/-
  The contracts of package epoch's functions: each call returns the number that the plain functions below say, and leaves memory alone. No condition but that the numbers are of their kinds.
-/
import Derived.Test.YtpmkfhfojmlalaaProg
import Derived.WalkKit
import Derived.WalkSpells
import Derived.KernelRfl
import Derived.Lib.Hide
import Derived.Deep.RegionWith
import Derived.Laws.BitsLemmas
namespace Go.Proofs.Ytpmkfhfojmlalaa
open Go.RowKit
set_option linter.unusedVariables false
set_option linter.unusedSimpArgs false

theorem u64_low (x : Int) (h0 : 0 ≤ x) (h1 : x < 18446744073709551616) : Go.bits .and .u64 x 4294967295 = x % 4294967296 := by
  have hk : ∀ n : Int, 0 ≤ n → n < 2 ^ 64 → IntKind.u64.wrap n = n := by
    intro n a b
    simp [IntKind.wrap, IntKind.bits, IntKind.signed]; omega
  exact bits_mask .u64 64 (by decide) hk 32 (by decide) x h0 h1

/-- Are these a tid and its clock? -/
def okT (t c : Int) : Bool := decide (0 ≤ t ∧ t < 256 ∧ 1 ≤ c ∧ c ≤ 1048576)
/-- A tid's clock as one number. -/
def ep (t c : Int) : Int := (t + 1) * 4294967296 + c
def okE (e : Int) : Bool := decide (1 ≤ e / 4294967296 ∧ e / 4294967296 ≤ 256 ∧ 1 ≤ e % 4294967296 ∧ e % 4294967296 ≤ 1048576)
def tidE (e : Int) : Int := if okE e then e / 4294967296 - 1 else -1
def clkE (e : Int) : Int := if okE e then e % 4294967296 else 0

theorem parts_yes (e : Int) (w : World) (h0 : 0 ≤ e) (h1 : e < 18446744073709551616) (h : okE e = true) :
    Calls Try.prog 25 #[.int .u64 e] w fun r w' => r = .returned (.tuple #[.int .i64 (e / 4294967296 - 1), .int .i64 (e % 4294967296), .bool true]) ∧ w = w' := by
  obtain ⟨a, b, c, d⟩ := of_decide_eq_true h
  have hb := u64_low e h0 h1
  clear h
  go_enter Try.func25, Try.ntmps25
  go_wp2
  go_ret3
  exact ⟨rfl, rfl⟩

theorem parts_no (e : Int) (w : World) (h0 : 0 ≤ e) (h1 : e < 18446744073709551616) (h : okE e = false) :
    Calls Try.prog 25 #[.int .u64 e] w fun r w' => r = .returned (.tuple #[.int .i64 (-1), .int .i64 0, .bool false]) ∧ w = w' := by
  have hn := of_decide_eq_false h
  have hb := u64_low e h0 h1
  clear h
  go_enter Try.func25, Try.ntmps25
  go_wp2
  all_goals (go_ret3; exact ⟨rfl, rfl⟩)

/-- What parts returns: its tid, its clock, whether it is one. -/
theorem parts_any (e : Int) (w : World) (h0 : 0 ≤ e) (h1 : e < 18446744073709551616) :
    Calls Try.prog 25 #[.int .u64 e] w fun r w' => r = .returned (.tuple #[.int .i64 (tidE e), .int .i64 (clkE e), .bool (okE e)]) ∧ w = w' := by
  unfold tidE clkE
  cases h : okE e with
  | true => exact (parts_yes e w h0 h1 h).mono fun r w' hh => by simpa using hh
  | false => exact (parts_no e w h0 h1 h).mono fun r w' hh => by simpa using hh

theorem tid_any (e : Int) (w : World) (h0 : 0 ≤ e) (h1 : e < 18446744073709551616) :
    Calls Try.prog 28 #[.int .u64 e] w fun r w' => r = .returned (.int .i64 (tidE e)) ∧ w = w' := by
  go_enter Try.func28, Try.ntmps28
  go_wp2_with (go_at_call 25; refine (parts_any _ _ h0 h1).mono ?_; rintro r w' ⟨rfl, rfl⟩)
  go_ret
  exact ⟨rfl, rfl⟩

theorem clock_any (e : Int) (w : World) (h0 : 0 ≤ e) (h1 : e < 18446744073709551616) :
    Calls Try.prog 15 #[.int .u64 e] w fun r w' => r = .returned (.int .i64 (clkE e)) ∧ w = w' := by
  go_enter Try.func15, Try.ntmps15
  go_wp2_with (go_at_call 25; refine (parts_any _ _ h0 h1).mono ?_; rintro r w' ⟨rfl, rfl⟩)
  go_ret
  exact ⟨rfl, rfl⟩

def chkE (e : Int) : Int := if okE e = true ∨ e = 0 ∨ e = 18446744073709551615 then 0 else 4

def tB (n : Int) : Bool := decide (0 ≤ n ∧ n < 256)
def cB (n : Int) : Bool := decide (1 ≤ n ∧ n ≤ 1048576)

theorem etid_any (n : Int) (w : World) :
    Calls Try.prog 26 #[.int .i64 n] w fun r w' => r = .returned (.bool (tB n)) ∧ w = w' := by
  unfold tB
  by_cases a : 0 ≤ n <;> by_cases b : n < 256
  all_goals
    go_enter Try.func26, Try.ntmps26
    go_wp2
    go_ret
    exact ⟨by simp [a, b], rfl⟩

theorem eclock_any (n : Int) (w : World) :
    Calls Try.prog 27 #[.int .i64 n] w fun r w' => r = .returned (.bool (cB n)) ∧ w = w' := by
  unfold cB
  by_cases a : 1 ≤ n <;> by_cases b : n ≤ 1048576
  all_goals
    go_enter Try.func27, Try.ntmps27
    go_wp2
    go_ret
    exact ⟨by simp [a, b], rfl⟩

theorem u64_or_ep (t c : Int) (a : 0 ≤ t) (b : t < 256) (d : 1 ≤ c) (e : c ≤ 1048576) : bits .or .u64 ((t + 1) * 4294967296) c = ep t c := by
  have hk : ∀ n : Int, 0 ≤ n → n < 2 ^ 64 → IntKind.u64.wrap n = n := by
    intro n a b
    simp [IntKind.wrap, IntKind.bits, IntKind.signed]; omega
  exact bits_join .u64 64 (by decide) hk 32 ((t + 1) * 4294967296) c (by omega) (by omega) (by omega) (by omega) (by omega) (by omega)

theorem pack_yes (t c : Int) (w : World) (h : okT t c = true) :
    Calls Try.prog 16 #[.int .i64 t, .int .i64 c] w fun r w' => r = .returned (.tuple #[.int .u64 (ep t c), .int .i64 0]) ∧ w = w' := by
  obtain ⟨a, b, d, e⟩ := of_decide_eq_true h
  clear h
  have h1 : tB t = true := decide_eq_true ⟨a, b⟩
  have h2 : cB c = true := decide_eq_true ⟨d, e⟩
  have h3 := u64_or_ep t c a b d e
  go_enter Try.func16, Try.ntmps16
  go_wp2_with (first | (go_at_call 26; refine (etid_any _ _).mono ?_; rintro r w' ⟨rfl, rfl⟩) | (go_at_call 27; refine (eclock_any _ _).mono ?_; rintro r w' ⟨rfl, rfl⟩))
  go_ret2
  exact ⟨rfl, rfl⟩

theorem pack_no (t c : Int) (w : World) (h : okT t c = false) :
    Calls Try.prog 16 #[.int .i64 t, .int .i64 c] w fun r w' => r = .returned (.tuple #[.int .u64 0, .int .i64 1]) ∧ w = w' := by
  have hn := of_decide_eq_false h
  clear h
  by_cases k1 : 0 ≤ t ∧ t < 256
  · have h1 : tB t = true := decide_eq_true k1
    have h2 : cB c = false := decide_eq_false (fun x => hn ⟨k1.1, k1.2, x.1, x.2⟩)
    clear hn k1
    go_enter Try.func16, Try.ntmps16
    go_wp2_with (first | (go_at_call 26; refine (etid_any _ _).mono ?_; rintro r w' ⟨rfl, rfl⟩) | (go_at_call 27; refine (eclock_any _ _).mono ?_; rintro r w' ⟨rfl, rfl⟩))
    go_ret2
    exact ⟨rfl, rfl⟩
  · have h1 : tB t = false := decide_eq_false k1
    clear hn k1
    go_enter Try.func16, Try.ntmps16
    go_wp2_with (first | (go_at_call 26; refine (etid_any _ _).mono ?_; rintro r w' ⟨rfl, rfl⟩) | (go_at_call 27; refine (eclock_any _ _).mono ?_; rintro r w' ⟨rfl, rfl⟩))
    go_ret2
    exact ⟨rfl, rfl⟩

def packV (t c : Int) : Int := if okT t c then ep t c else 0
def packE (t c : Int) : Int := if okT t c then 0 else 1
theorem pack_any (t c : Int) (w : World) :
    Calls Try.prog 16 #[.int .i64 t, .int .i64 c] w fun r w' => r = .returned (.tuple #[.int .u64 (packV t c), .int .i64 (packE t c)]) ∧ w = w' := by
  unfold packV packE
  cases h : okT t c with
  | true => exact (pack_yes t c w h).mono fun r w' hh => by simpa using hh
  | false => exact (pack_no t c w h).mono fun r w' hh => by simpa using hh

theorem packV_bd (t c : Int) : 0 ≤ packV t c ∧ packV t c < 18446744073709551616 := by
  unfold packV
  split
  · rename_i h
    obtain ⟨a, b, d, e⟩ := of_decide_eq_true h
    unfold ep; omega
  · omega

def nextV (e m : Int) : Int := if okE e = true ∧ cB m = true ∧ e % 4294967296 < m then e + 1 else 0
def nextE (e m : Int) : Int := if okE e = true ∧ cB m = true then (if e % 4294967296 < m then 0 else 5) else 1

theorem okE_lt {e : Int} (h : okE e = true) : e + 1 < 18446744073709551616 := by
  obtain ⟨a, b, d, c⟩ := of_decide_eq_true h
  omega

def seenB (e c : Int) : Bool := decide (e = 0) || (okE e && decide (e % 4294967296 ≤ c))

def lessB (a b : Int) : Bool := okE a && okE b && decide (a / 4294967296 = b / 4294967296) && decide (a % 4294967296 < b % 4294967296)

theorem lessB_yes (a b : Int) (x : okE a = true) (y : okE b = true) (z : a / 4294967296 = b / 4294967296) (u : a % 4294967296 < b % 4294967296) : lessB a b = true := by simp [lessB, x, y, z, u]

end Go.Proofs.Ytpmkfhfojmlalaa

