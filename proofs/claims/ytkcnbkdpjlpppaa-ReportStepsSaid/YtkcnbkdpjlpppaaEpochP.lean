
/-
  Package epoch's Pack (out of XEpoch, for programs that reach no more of it), and the clock's Epoch.
-/
import Derived.Test.YtkcnbkdpjlpppaaFam
import Derived.WalkKit
import Derived.WalkSpells
import Derived.KernelRfl
import Derived.Lib.Hide
import Derived.Deep.RegionWith
import Derived.Laws.BitsLemmas
namespace Go.Proofs.Ytkcnbkdpjlpppaa
open Go.RowKit
set_option linter.unusedVariables false
set_option linter.unusedSimpArgs false


/-- Are these a tid and its clock? -/
def okT (t c : Int) : Bool := decide (0 ≤ t ∧ t < 256 ∧ 1 ≤ c ∧ c ≤ 1048576)
/-- A tid's clock as one number. -/
def ep (t c : Int) : Int := (t + 1) * 4294967296 + c
def okE (e : Int) : Bool := decide (1 ≤ e / 4294967296 ∧ e / 4294967296 ≤ 256 ∧ 1 ≤ e % 4294967296 ∧ e % 4294967296 ≤ 1048576)

def tB (n : Int) : Bool := decide (0 ≤ n ∧ n < 256)
def cB (n : Int) : Bool := decide (1 ≤ n ∧ n ≤ 1048576)

theorem etid_any (n : Int) (w : World) :
    Calls Try.prog 47 #[.int .i64 n] w fun r w' => r = .returned (.bool (tB n)) ∧ w = w' := by
  unfold tB
  by_cases a : 0 ≤ n <;> by_cases b : n < 256
  all_goals
    go_enter Try.func47, Try.ntmps47
    go_wp2
    go_ret
    exact ⟨by simp [a, b], rfl⟩

theorem eclock_any (n : Int) (w : World) :
    Calls Try.prog 48 #[.int .i64 n] w fun r w' => r = .returned (.bool (cB n)) ∧ w = w' := by
  unfold cB
  by_cases a : 1 ≤ n <;> by_cases b : n ≤ 1048576
  all_goals
    go_enter Try.func48, Try.ntmps48
    go_wp2
    go_ret
    exact ⟨by simp [a, b], rfl⟩

theorem u64_or_ep (t c : Int) (a : 0 ≤ t) (b : t < 256) (d : 1 ≤ c) (e : c ≤ 1048576) : bits .or .u64 ((t + 1) * 4294967296) c = ep t c := by
  have hk : ∀ n : Int, 0 ≤ n → n < 2 ^ 64 → IntKind.u64.wrap n = n := by
    intro n a b
    simp [IntKind.wrap, IntKind.bits, IntKind.signed]; omega
  exact bits_join .u64 64 (by decide) hk 32 ((t + 1) * 4294967296) c (by omega) (by omega) (by omega) (by omega) (by omega) (by omega)

theorem pack_yes (t c : Int) (w : World) (h : okT t c = true) :
    Calls Try.prog 26 #[.int .i64 t, .int .i64 c] w fun r w' => r = .returned (.tuple #[.int .u64 (ep t c), .int .i64 0]) ∧ w = w' := by
  obtain ⟨a, b, d, e⟩ := of_decide_eq_true h
  clear h
  have h1 : tB t = true := decide_eq_true ⟨a, b⟩
  have h2 : cB c = true := decide_eq_true ⟨d, e⟩
  have h3 := u64_or_ep t c a b d e
  go_enter Try.func26, Try.ntmps26
  go_wp2_with (first | (go_at_call 47; refine (etid_any _ _).mono ?_; rintro r w' ⟨rfl, rfl⟩) | (go_at_call 48; refine (eclock_any _ _).mono ?_; rintro r w' ⟨rfl, rfl⟩))
  go_ret2
  exact ⟨rfl, rfl⟩

theorem pack_no (t c : Int) (w : World) (h : okT t c = false) :
    Calls Try.prog 26 #[.int .i64 t, .int .i64 c] w fun r w' => r = .returned (.tuple #[.int .u64 0, .int .i64 1]) ∧ w = w' := by
  have hn := of_decide_eq_false h
  clear h
  by_cases k1 : 0 ≤ t ∧ t < 256
  · have h1 : tB t = true := decide_eq_true k1
    have h2 : cB c = false := decide_eq_false (fun x => hn ⟨k1.1, k1.2, x.1, x.2⟩)
    clear hn k1
    go_enter Try.func26, Try.ntmps26
    go_wp2_with (first | (go_at_call 47; refine (etid_any _ _).mono ?_; rintro r w' ⟨rfl, rfl⟩) | (go_at_call 48; refine (eclock_any _ _).mono ?_; rintro r w' ⟨rfl, rfl⟩))
    go_ret2
    exact ⟨rfl, rfl⟩
  · have h1 : tB t = false := decide_eq_false k1
    clear hn k1
    go_enter Try.func26, Try.ntmps26
    go_wp2_with (first | (go_at_call 47; refine (etid_any _ _).mono ?_; rintro r w' ⟨rfl, rfl⟩) | (go_at_call 48; refine (eclock_any _ _).mono ?_; rintro r w' ⟨rfl, rfl⟩))
    go_ret2
    exact ⟨rfl, rfl⟩

def packV (t c : Int) : Int := if okT t c then ep t c else 0
def packE (t c : Int) : Int := if okT t c then 0 else 1
theorem pack_any (t c : Int) (w : World) :
    Calls Try.prog 26 #[.int .i64 t, .int .i64 c] w fun r w' => r = .returned (.tuple #[.int .u64 (packV t c), .int .i64 (packE t c)]) ∧ w = w' := by
  unfold packV packE
  cases h : okT t c with
  | true => exact (pack_yes t c w h).mono fun r w' hh => by simpa using hh
  | false => exact (pack_no t c w h).mono fun r w' hh => by simpa using hh

theorem packV_bd (t c : Int) : 0 ≤ packV t c ∧ packV t c < 18446744073709551616 := by
  unfold packV
  split
  · rename_i h
    obtain ⟨a, b, d, e⟩ := of_decide_eq_true h
    unfold ep; omega
  · omega
end Go.Proofs.Ytkcnbkdpjlpppaa

