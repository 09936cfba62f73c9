/-
  The contracts of package epoch's functions: each call returns the number that the plain functions below say, and leaves memory alone. No condition but that the numbers are of their kinds.
-/
import Derived.Test.YtdlaokfmelokeaaProg
import Derived.WalkKit
import Derived.WalkSpells
import Derived.KernelRfl
import Derived.Lib.Hide
import Derived.Deep.RegionWith
import Derived.Laws.BitsLemmas
namespace Go.Proofs.Ytdlaokfmelokeaa
open Go.RowKit
set_option linter.unusedVariables false
set_option linter.unusedSimpArgs false

theorem u64_low (x : Int) (h0 : 0 ≤ x) (h1 : x < 18446744073709551616) : Go.bits .and .u64 x 4294967295 = x % 4294967296 := by
  have hk : ∀ n : Int, 0 ≤ n → n < 2 ^ 64 → IntKind.u64.wrap n = n := by
    intro n a b
    simp [IntKind.wrap, IntKind.bits, IntKind.signed]; omega
  exact bits_mask .u64 64 (by decide) hk 32 (by decide) x h0 h1

/-- Are these a tid and its clock? -/
def okT (t c : Int) : Bool := decide (0 ≤ t ∧ t < 256 ∧ 1 ≤ c ∧ c ≤ 1048576)
/-- A tid's clock as one number. -/
def ep (t c : Int) : Int := (t + 1) * 4294967296 + c
def okE (e : Int) : Bool := decide (1 ≤ e / 4294967296 ∧ e / 4294967296 ≤ 256 ∧ 1 ≤ e % 4294967296 ∧ e % 4294967296 ≤ 1048576)
def tidE (e : Int) : Int := if okE e then e / 4294967296 - 1 else -1
def clkE (e : Int) : Int := if okE e then e % 4294967296 else 0

theorem parts_yes (e : Int) (w : World) (h0 : 0 ≤ e) (h1 : e < 18446744073709551616) (h : okE e = true) :
    Calls Try.prog 26 #[.int .u64 e] w fun r w' => r = .returned (.tuple #[.int .i64 (e / 4294967296 - 1), .int .i64 (e % 4294967296), .bool true]) ∧ w = w' := by
  obtain ⟨a, b, c, d⟩ := of_decide_eq_true h
  have hb := u64_low e h0 h1
  clear h
  go_enter Try.func26, Try.ntmps26
  go_wp2
  go_ret3
  exact ⟨rfl, rfl⟩

theorem parts_no (e : Int) (w : World) (h0 : 0 ≤ e) (h1 : e < 18446744073709551616) (h : okE e = false) :
    Calls Try.prog 26 #[.int .u64 e] w fun r w' => r = .returned (.tuple #[.int .i64 (-1), .int .i64 0, .bool false]) ∧ w = w' := by
  have hn := of_decide_eq_false h
  have hb := u64_low e h0 h1
  clear h
  go_enter Try.func26, Try.ntmps26
  go_wp2
  all_goals (go_ret3; exact ⟨rfl, rfl⟩)

/-- What parts returns: its tid, its clock, whether it is one. -/
theorem parts_any (e : Int) (w : World) (h0 : 0 ≤ e) (h1 : e < 18446744073709551616) :
    Calls Try.prog 26 #[.int .u64 e] w fun r w' => r = .returned (.tuple #[.int .i64 (tidE e), .int .i64 (clkE e), .bool (okE e)]) ∧ w = w' := by
  unfold tidE clkE
  cases h : okE e with
  | true => exact (parts_yes e w h0 h1 h).mono fun r w' hh => by simpa using hh
  | false => exact (parts_no e w h0 h1 h).mono fun r w' hh => by simpa using hh

theorem tid_any (e : Int) (w : World) (h0 : 0 ≤ e) (h1 : e < 18446744073709551616) :
    Calls Try.prog 15 #[.int .u64 e] w fun r w' => r = .returned (.int .i64 (tidE e)) ∧ w = w' := by
  go_enter Try.func15, Try.ntmps15
  go_wp2_with (go_at_call 26; refine (parts_any _ _ h0 h1).mono ?_; rintro r w' ⟨rfl, rfl⟩)
  go_ret
  exact ⟨rfl, rfl⟩

theorem clock_any (e : Int) (w : World) (h0 : 0 ≤ e) (h1 : e < 18446744073709551616) :
    Calls Try.prog 14 #[.int .u64 e] w fun r w' => r = .returned (.int .i64 (clkE e)) ∧ w = w' := by
  go_enter Try.func14, Try.ntmps14
  go_wp2_with (go_at_call 26; refine (parts_any _ _ h0 h1).mono ?_; rintro r w' ⟨rfl, rfl⟩)
  go_ret
  exact ⟨rfl, rfl⟩

def chkE (e : Int) : Int := if okE e = true ∨ e = 0 ∨ e = 18446744073709551615 then 0 else 4

theorem check_any (e : Int) (w : World) (h0 : 0 ≤ e) (h1 : e < 18446744073709551616) :
    Calls Try.prog 22 #[.int .u64 e] w fun r w' => r = .returned (.int .i64 (chkE e)) ∧ w = w' := by
  by_cases k1 : okE e = true
  · have hf : chkE e = 0 := by simp [chkE, k1]
    go_enter Try.func22, Try.ntmps22
    go_wp2_with (go_at_call 26; refine (parts_any _ _ h0 h1).mono ?_; rintro r w' ⟨rfl, rfl⟩)
    all_goals (go_ret; exact ⟨by rw [hf]; rfl, rfl⟩)
  · simp only [Bool.not_eq_true] at k1
    by_cases k2 : e = 0
    · have hf : chkE e = 0 := by simp [chkE, k2]
      have k2' : (e == 0) = true := by simp [k2]
      clear k2
      go_enter Try.func22, Try.ntmps22
      go_wp2_with (go_at_call 26; refine (parts_any _ _ h0 h1).mono ?_; rintro r w' ⟨rfl, rfl⟩)
      all_goals (go_ret; exact ⟨by rw [hf]; rfl, rfl⟩)
    · have k2' : (e == 0) = false := by simp [k2]
      by_cases k3 : e = 18446744073709551615
      · have hf : chkE e = 0 := by simp [chkE, k3]
        have k3' : (e == 18446744073709551615) = true := by simp [k3]
        clear k2 k3
        go_enter Try.func22, Try.ntmps22
        go_wp2_with (go_at_call 26; refine (parts_any _ _ h0 h1).mono ?_; rintro r w' ⟨rfl, rfl⟩)
        all_goals (go_ret; exact ⟨by rw [hf]; rfl, rfl⟩)
      · have hf : chkE e = 4 := by simp [chkE, k1, k2, k3]
        have k3' : (e == 18446744073709551615) = false := by simp [k3]
        clear k2 k3
        go_enter Try.func22, Try.ntmps22
        go_wp2_with (go_at_call 26; refine (parts_any _ _ h0 h1).mono ?_; rintro r w' ⟨rfl, rfl⟩)
        all_goals (go_ret; exact ⟨by rw [hf]; rfl, rfl⟩)

def tB (n : Int) : Bool := decide (0 ≤ n ∧ n < 256)
def cB (n : Int) : Bool := decide (1 ≤ n ∧ n ≤ 1048576)

theorem etid_any (n : Int) (w : World) :
    Calls Try.prog 24 #[.int .i64 n] w fun r w' => r = .returned (.bool (tB n)) ∧ w = w' := by
  unfold tB
  by_cases a : 0 ≤ n <;> by_cases b : n < 256
  all_goals
    go_enter Try.func24, Try.ntmps24
    go_wp2
    go_ret
    exact ⟨by simp [a, b], rfl⟩

theorem eclock_any (n : Int) (w : World) :
    Calls Try.prog 25 #[.int .i64 n] w fun r w' => r = .returned (.bool (cB n)) ∧ w = w' := by
  unfold cB
  by_cases a : 1 ≤ n <;> by_cases b : n ≤ 1048576
  all_goals
    go_enter Try.func25, Try.ntmps25
    go_wp2
    go_ret
    exact ⟨by simp [a, b], rfl⟩

theorem u64_or_ep (t c : Int) (a : 0 ≤ t) (b : t < 256) (d : 1 ≤ c) (e : c ≤ 1048576) : bits .or .u64 ((t + 1) * 4294967296) c = ep t c := by
  have hk : ∀ n : Int, 0 ≤ n → n < 2 ^ 64 → IntKind.u64.wrap n = n := by
    intro n a b
    simp [IntKind.wrap, IntKind.bits, IntKind.signed]; omega
  exact bits_join .u64 64 (by decide) hk 32 ((t + 1) * 4294967296) c (by omega) (by omega) (by omega) (by omega) (by omega) (by omega)

theorem pack_yes (t c : Int) (w : World) (h : okT t c = true) :
    Calls Try.prog 10 #[.int .i64 t, .int .i64 c] w fun r w' => r = .returned (.tuple #[.int .u64 (ep t c), .int .i64 0]) ∧ w = w' := by
  obtain ⟨a, b, d, e⟩ := of_decide_eq_true h
  clear h
  have h1 : tB t = true := decide_eq_true ⟨a, b⟩
  have h2 : cB c = true := decide_eq_true ⟨d, e⟩
  have h3 := u64_or_ep t c a b d e
  go_enter Try.func10, Try.ntmps10
  go_wp2_with (first | (go_at_call 24; refine (etid_any _ _).mono ?_; rintro r w' ⟨rfl, rfl⟩) | (go_at_call 25; refine (eclock_any _ _).mono ?_; rintro r w' ⟨rfl, rfl⟩))
  go_ret2
  exact ⟨rfl, rfl⟩

theorem pack_no (t c : Int) (w : World) (h : okT t c = false) :
    Calls Try.prog 10 #[.int .i64 t, .int .i64 c] w fun r w' => r = .returned (.tuple #[.int .u64 0, .int .i64 1]) ∧ w = w' := by
  have hn := of_decide_eq_false h
  clear h
  by_cases k1 : 0 ≤ t ∧ t < 256
  · have h1 : tB t = true := decide_eq_true k1
    have h2 : cB c = false := decide_eq_false (fun x => hn ⟨k1.1, k1.2, x.1, x.2⟩)
    clear hn k1
    go_enter Try.func10, Try.ntmps10
    go_wp2_with (first | (go_at_call 24; refine (etid_any _ _).mono ?_; rintro r w' ⟨rfl, rfl⟩) | (go_at_call 25; refine (eclock_any _ _).mono ?_; rintro r w' ⟨rfl, rfl⟩))
    go_ret2
    exact ⟨rfl, rfl⟩
  · have h1 : tB t = false := decide_eq_false k1
    clear hn k1
    go_enter Try.func10, Try.ntmps10
    go_wp2_with (first | (go_at_call 24; refine (etid_any _ _).mono ?_; rintro r w' ⟨rfl, rfl⟩) | (go_at_call 25; refine (eclock_any _ _).mono ?_; rintro r w' ⟨rfl, rfl⟩))
    go_ret2
    exact ⟨rfl, rfl⟩

def packV (t c : Int) : Int := if okT t c then ep t c else 0
def packE (t c : Int) : Int := if okT t c then 0 else 1
theorem pack_any (t c : Int) (w : World) :
    Calls Try.prog 10 #[.int .i64 t, .int .i64 c] w fun r w' => r = .returned (.tuple #[.int .u64 (packV t c), .int .i64 (packE t c)]) ∧ w = w' := by
  unfold packV packE
  cases h : okT t c with
  | true => exact (pack_yes t c w h).mono fun r w' hh => by simpa using hh
  | false => exact (pack_no t c w h).mono fun r w' hh => by simpa using hh

theorem packV_bd (t c : Int) : 0 ≤ packV t c ∧ packV t c < 18446744073709551616 := by
  unfold packV
  split
  · rename_i h
    obtain ⟨a, b, d, e⟩ := of_decide_eq_true h
    unfold ep; omega
  · omega

def nextV (e m : Int) : Int := if okE e = true ∧ cB m = true ∧ e % 4294967296 < m then e + 1 else 0
def nextE (e m : Int) : Int := if okE e = true ∧ cB m = true then (if e % 4294967296 < m then 0 else 5) else 1

theorem okE_lt {e : Int} (h : okE e = true) : e + 1 < 18446744073709551616 := by
  obtain ⟨a, b, d, c⟩ := of_decide_eq_true h
  omega

theorem next_any (e m : Int) (w : World) (h0 : 0 ≤ e) (h1 : e < 18446744073709551616) :
    Calls Try.prog 13 #[.int .u64 e, .int .i64 m] w fun r w' => r = .returned (.tuple #[.int .u64 (nextV e m), .int .i64 (nextE e m)]) ∧ w = w' := by
  by_cases k1 : okE e = true
  · have h2 := okE_lt k1
    by_cases k2 : cB m = true
    · by_cases k3 : e % 4294967296 < m
      · have f1 : nextV e m = e + 1 := by simp [nextV, k1, k2, k3]
        have f2 : nextE e m = 0 := by simp [nextE, k1, k2, k3]
        have F := Lib.hid (And.intro f1 f2)
        clear f1 f2
        go_enter Try.func13, Try.ntmps13
        go_wp2_with (first | (go_at_call 26; refine (parts_yes _ _ h0 h1 k1).mono ?_; rintro r w' ⟨rfl, rfl⟩) | (go_at_call 25; refine (eclock_any _ _).mono ?_; rintro r w' ⟨rfl, rfl⟩))
        go_ret2
        exact ⟨by rw [F.out.1, F.out.2]; rfl, rfl⟩
      · have f1 : nextV e m = 0 := by simp [nextV, k1, k2, k3]
        have f2 : nextE e m = 5 := by simp [nextE, k1, k2, k3]
        have F := Lib.hid (And.intro f1 f2)
        clear f1 f2
        go_enter Try.func13, Try.ntmps13
        go_wp2_with (first | (go_at_call 26; refine (parts_yes _ _ h0 h1 k1).mono ?_; rintro r w' ⟨rfl, rfl⟩) | (go_at_call 25; refine (eclock_any _ _).mono ?_; rintro r w' ⟨rfl, rfl⟩))
        go_ret2
        exact ⟨by rw [F.out.1, F.out.2]; rfl, rfl⟩
    · simp only [Bool.not_eq_true] at k2
      have f1 : nextV e m = 0 := by simp [nextV, k1, k2]
      have f2 : nextE e m = 1 := by simp [nextE, k1, k2]
      have F := Lib.hid (And.intro f1 f2)
      clear f1 f2
      go_enter Try.func13, Try.ntmps13
      go_wp2_with (first | (go_at_call 26; refine (parts_yes _ _ h0 h1 k1).mono ?_; rintro r w' ⟨rfl, rfl⟩) | (go_at_call 25; refine (eclock_any _ _).mono ?_; rintro r w' ⟨rfl, rfl⟩))
      go_ret2
      exact ⟨by rw [F.out.1, F.out.2]; rfl, rfl⟩
  · simp only [Bool.not_eq_true] at k1
    have f1 : nextV e m = 0 := by simp [nextV, k1]
    have f2 : nextE e m = 1 := by simp [nextE, k1]
    have F := Lib.hid (And.intro f1 f2)
    clear f1 f2
    go_enter Try.func13, Try.ntmps13
    go_wp2_with (first | (go_at_call 26; refine (parts_no _ _ h0 h1 k1).mono ?_; rintro r w' ⟨rfl, rfl⟩) | (go_at_call 25; refine (eclock_any _ _).mono ?_; rintro r w' ⟨rfl, rfl⟩))
    go_ret2
    exact ⟨by rw [F.out.1, F.out.2]; rfl, rfl⟩

def seenB (e c : Int) : Bool := decide (e = 0) || (okE e && decide (e % 4294967296 ≤ c))

theorem seen_any (e c : Int) (w : World) (h0 : 0 ≤ e) (h1 : e < 18446744073709551616) :
    Calls Try.prog 17 #[.int .u64 e, .int .i64 c] w fun r w' => r = .returned (.bool (seenB e c)) ∧ w = w' := by
  by_cases k1 : okE e = true
  · have k0 : (e == 0) = false := by
      obtain ⟨a, b, d, c⟩ := of_decide_eq_true k1
      simp; omega
    by_cases k3 : e % 4294967296 ≤ c
    · have F := Lib.hid (show seenB e c = true by simp [seenB, k1, k3])
      go_enter Try.func17, Try.ntmps17
      go_wp2_with (go_at_call 26; refine (parts_yes _ _ h0 h1 k1).mono ?_; rintro r w' ⟨rfl, rfl⟩)
      go_ret
      exact ⟨by rw [F.out]; rfl, rfl⟩
    · have F := Lib.hid (show seenB e c = false by simp [seenB, k1, k3]; simpa using k0)
      have k3' : decide (e % 4294967296 ≤ c) = false := decide_eq_false k3
      go_enter Try.func17, Try.ntmps17
      go_wp2_with (go_at_call 26; refine (parts_yes _ _ h0 h1 k1).mono ?_; rintro r w' ⟨rfl, rfl⟩)
      go_ret
      exact ⟨by rw [F.out]; rfl, rfl⟩
  · simp only [Bool.not_eq_true] at k1
    by_cases k2 : e = 0
    · have F := Lib.hid (show seenB e c = true by simp [seenB, k2])
      have k0 : (e == 0) = true := by simp [k2]
      clear k2
      go_enter Try.func17, Try.ntmps17
      go_wp2_with (go_at_call 26; refine (parts_no _ _ h0 h1 k1).mono ?_; rintro r w' ⟨rfl, rfl⟩)
      go_ret
      exact ⟨by rw [F.out]; rfl, rfl⟩
    · have F := Lib.hid (show seenB e c = false by simp [seenB, k2, k1])
      have k0 : (e == 0) = false := by simp [k2]
      clear k2
      go_enter Try.func17, Try.ntmps17
      go_wp2_with (go_at_call 26; refine (parts_no _ _ h0 h1 k1).mono ?_; rintro r w' ⟨rfl, rfl⟩)
      go_ret
      exact ⟨by rw [F.out]; rfl, rfl⟩

def lessB (a b : Int) : Bool := okE a && okE b && decide (a / 4294967296 = b / 4294967296) && decide (a % 4294967296 < b % 4294967296)

theorem lessB_yes (a b : Int) (x : okE a = true) (y : okE b = true) (z : a / 4294967296 = b / 4294967296) (u : a % 4294967296 < b % 4294967296) : lessB a b = true := by simp [lessB, x, y, z, u]

theorem less_any (a b : Int) (w : World) (h0 : 0 ≤ a) (h1 : a < 18446744073709551616) (g0 : 0 ≤ b) (g1 : b < 18446744073709551616) :
    Calls Try.prog 20 #[.int .u64 a, .int .u64 b] w fun r w' => r = .returned (.bool (lessB a b)) ∧ w = w' := by
  by_cases k1 : okE a = true
  · by_cases k2 : okE b = true
    · by_cases k3 : a / 4294967296 - 1 = b / 4294967296 - 1
      · have k3' : (a / 4294967296 - 1 == b / 4294967296 - 1) = true := by simpa using k3
        by_cases k4 : a % 4294967296 < b % 4294967296
        · have F := Lib.hid (lessB_yes a b k1 k2 (by omega) k4)
          clear k3
          go_enter Try.func20, Try.ntmps20
          go_wp2_with (first | (go_at_call_of 26 (Value.int .u64 a); refine (parts_yes _ _ h0 h1 k1).mono ?_; rintro r w' ⟨rfl, rfl⟩) | (go_at_call_of 26 (Value.int .u64 b); refine (parts_yes _ _ g0 g1 k2).mono ?_; rintro r w' ⟨rfl, rfl⟩))
          all_goals (go_ret; exact ⟨by rw [F.out]; rfl, rfl⟩)
        · have F := Lib.hid (show lessB a b = false by simp [lessB, k4])
          have k4' : decide (a % 4294967296 < b % 4294967296) = false := decide_eq_false k4
          clear k3 k4
          go_enter Try.func20, Try.ntmps20
          go_wp2_with (first | (go_at_call_of 26 (Value.int .u64 a); refine (parts_yes _ _ h0 h1 k1).mono ?_; rintro r w' ⟨rfl, rfl⟩) | (go_at_call_of 26 (Value.int .u64 b); refine (parts_yes _ _ g0 g1 k2).mono ?_; rintro r w' ⟨rfl, rfl⟩))
          all_goals (go_ret; exact ⟨by rw [F.out]; rfl, rfl⟩)
      · have k3' : (a / 4294967296 - 1 == b / 4294967296 - 1) = false := by simpa using k3
        have F := Lib.hid (show lessB a b = false by simp [lessB]; omega)
        clear k3
        go_enter Try.func20, Try.ntmps20
        go_wp2_with (first | (go_at_call_of 26 (Value.int .u64 a); refine (parts_yes _ _ h0 h1 k1).mono ?_; rintro r w' ⟨rfl, rfl⟩) | (go_at_call_of 26 (Value.int .u64 b); refine (parts_yes _ _ g0 g1 k2).mono ?_; rintro r w' ⟨rfl, rfl⟩))
        all_goals (go_ret; exact ⟨by rw [F.out]; rfl, rfl⟩)
    · simp only [Bool.not_eq_true] at k2
      have F := Lib.hid (show lessB a b = false by simp [lessB, k2])
      go_enter Try.func20, Try.ntmps20
      go_wp2_with (first | (go_at_call_of 26 (Value.int .u64 a); refine (parts_yes _ _ h0 h1 k1).mono ?_; rintro r w' ⟨rfl, rfl⟩) | (go_at_call_of 26 (Value.int .u64 b); refine (parts_no _ _ g0 g1 k2).mono ?_; rintro r w' ⟨rfl, rfl⟩))
      all_goals (go_ret; exact ⟨by rw [F.out]; rfl, rfl⟩)
  · simp only [Bool.not_eq_true] at k1
    have F := Lib.hid (show lessB a b = false by simp [lessB, k1])
    go_enter Try.func20, Try.ntmps20
    go_wp2_with (first | (go_at_call_of 26 (Value.int .u64 a); refine (parts_no _ _ h0 h1 k1).mono ?_; rintro r w' ⟨rfl, rfl⟩) | (go_at_call 26; refine (parts_any _ _ g0 g1).mono ?_; rintro r w' ⟨rfl, rfl⟩))
    all_goals (go_ret; exact ⟨by rw [F.out]; rfl, rfl⟩)

end Go.Proofs.Ytdlaokfmelokeaa
