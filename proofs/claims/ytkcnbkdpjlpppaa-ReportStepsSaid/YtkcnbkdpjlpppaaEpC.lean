
/-
  Package epoch for programs with clocks: parts, Tid, Clock, Seen.
-/
import Derived.Test.YtkcnbkdpjlpppaaEpochP
namespace Go.Proofs.Ytkcnbkdpjlpppaa
open Go.RowKit
set_option linter.unusedVariables false
set_option linter.unusedSimpArgs false

theorem u64_low (x : Int) (h0 : 0 ≤ x) (h1 : x < 18446744073709551616) : Go.bits .and .u64 x 4294967295 = x % 4294967296 := by
  have hk : ∀ n : Int, 0 ≤ n → n < 2 ^ 64 → IntKind.u64.wrap n = n := by
    intro n a b
    simp [IntKind.wrap, IntKind.bits, IntKind.signed]; omega
  exact bits_mask .u64 64 (by decide) hk 32 (by decide) x h0 h1
def tidE (e : Int) : Int := if okE e then e / 4294967296 - 1 else -1
def clkE (e : Int) : Int := if okE e then e % 4294967296 else 0
/-- 64 bits. -/
def U64 (e : Int) : Prop := 0 ≤ e ∧ e < 18446744073709551616

theorem parts_yes (e : Int) (w : World) (h0 : 0 ≤ e) (h1 : e < 18446744073709551616) (h : okE e = true) :
    Calls Try.prog 34 #[.int .u64 e] w fun r w' => r = .returned (.tuple #[.int .i64 (e / 4294967296 - 1), .int .i64 (e % 4294967296), .bool true]) ∧ w = w' := by
  obtain ⟨a, b, c, d⟩ := of_decide_eq_true h
  have hb := u64_low e h0 h1
  clear h
  go_enter Try.func34, Try.ntmps34
  go_wp2
  go_ret3
  exact ⟨rfl, rfl⟩
theorem parts_no (e : Int) (w : World) (h0 : 0 ≤ e) (h1 : e < 18446744073709551616) (h : okE e = false) :
    Calls Try.prog 34 #[.int .u64 e] w fun r w' => r = .returned (.tuple #[.int .i64 (-1), .int .i64 0, .bool false]) ∧ w = w' := by
  have hn := of_decide_eq_false h
  have hb := u64_low e h0 h1
  clear h
  go_enter Try.func34, Try.ntmps34
  go_wp2
  all_goals (go_ret3; exact ⟨rfl, rfl⟩)
theorem parts_any (e : Int) (w : World) (h : U64 e) :
    Calls Try.prog 34 #[.int .u64 e] w fun r w' => r = .returned (.tuple #[.int .i64 (tidE e), .int .i64 (clkE e), .bool (okE e)]) ∧ w = w' := by
  unfold tidE clkE
  cases k : okE e with
  | true => exact (parts_yes e w h.1 h.2 k).mono fun r w' hh => by simpa using hh
  | false => exact (parts_no e w h.1 h.2 k).mono fun r w' hh => by simpa using hh
theorem etid_of (e : Int) (w : World) (h : U64 e) :
    Calls Try.prog 22 #[.int .u64 e] w fun r w' => r = .returned (.int .i64 (tidE e)) ∧ w = w' := by
  go_enter Try.func22, Try.ntmps22
  go_wp2_with (go_at_call 34; refine (parts_any _ _ h).mono ?_; rintro r w' ⟨rfl, rfl⟩)
  go_ret
  exact ⟨rfl, rfl⟩
theorem eclk_of (e : Int) (w : World) (h : U64 e) :
    Calls Try.prog 45 #[.int .u64 e] w fun r w' => r = .returned (.int .i64 (clkE e)) ∧ w = w' := by
  go_enter Try.func45, Try.ntmps45
  go_wp2_with (go_at_call 34; refine (parts_any _ _ h).mono ?_; rintro r w' ⟨rfl, rfl⟩)
  go_ret
  exact ⟨rfl, rfl⟩
def seenB (e c : Int) : Bool := decide (e = 0) || (okE e && decide (e % 4294967296 ≤ c))
theorem eseen_of (e c : Int) (w : World) (h : U64 e) :
    Calls Try.prog 53 #[.int .u64 e, .int .i64 c] w fun r w' => r = .returned (.bool (seenB e c)) ∧ w = w' := by
  have h0 := h.1
  have h1 := h.2
  by_cases k1 : okE e = true
  · have k0 : (e == 0) = false := by
      obtain ⟨a, b, d, c⟩ := of_decide_eq_true k1
      simp; omega
    by_cases k3 : e % 4294967296 ≤ c
    · have F := Lib.hid (show seenB e c = true by simp [seenB, k1, k3])
      go_enter Try.func53, Try.ntmps53
      go_wp2_with (go_at_call 34; refine (parts_yes _ _ h0 h1 k1).mono ?_; rintro r w' ⟨rfl, rfl⟩)
      go_ret
      exact ⟨by rw [F.out]; rfl, rfl⟩
    · have F := Lib.hid (show seenB e c = false by simp [seenB, k1, k3]; simpa using k0)
      have k3' : decide (e % 4294967296 ≤ c) = false := decide_eq_false k3
      go_enter Try.func53, Try.ntmps53
      go_wp2_with (go_at_call 34; refine (parts_yes _ _ h0 h1 k1).mono ?_; rintro r w' ⟨rfl, rfl⟩)
      go_ret
      exact ⟨by rw [F.out]; rfl, rfl⟩
  · simp only [Bool.not_eq_true] at k1
    by_cases k2 : e = 0
    · have F := Lib.hid (show seenB e c = true by simp [seenB, k2])
      have k0 : (e == 0) = true := by simp [k2]
      clear k2
      go_enter Try.func53, Try.ntmps53
      go_wp2_with (go_at_call 34; refine (parts_no _ _ h0 h1 k1).mono ?_; rintro r w' ⟨rfl, rfl⟩)
      go_ret
      exact ⟨by rw [F.out]; rfl, rfl⟩
    · have F := Lib.hid (show seenB e c = false by simp [seenB, k2, k1])
      have k0 : (e == 0) = false := by simp [k2]
      clear k2
      go_enter Try.func53, Try.ntmps53
      go_wp2_with (go_at_call 34; refine (parts_no _ _ h0 h1 k1).mono ?_; rintro r w' ⟨rfl, rfl⟩)
      go_ret
      exact ⟨by rw [F.out]; rfl, rfl⟩

/-! ### Plain facts -/
theorem okE_u64 {e : Int} (h : okE e = true) : U64 e := by
  obtain ⟨a, b, c, d⟩ := of_decide_eq_true h
  exact ⟨by omega, by omega⟩
theorem ep_u64 {t c : Int} (a : 0 ≤ t) (b : t < 256) (d : 1 ≤ c) (e : c ≤ 1048576) : U64 (ep t c) := by unfold ep; exact ⟨by omega, by omega⟩
theorem okE_ep {t c : Int} (a : 0 ≤ t) (b : t < 256) (d : 1 ≤ c) (e : c ≤ 1048576) : okE (ep t c) = true := by
  unfold okE ep
  apply decide_eq_true
  omega
theorem tidE_ep {t c : Int} (a : 0 ≤ t) (b : t < 256) (d : 1 ≤ c) (e : c ≤ 1048576) : tidE (ep t c) = t := by
  unfold tidE
  rw [if_pos (okE_ep a b d e)]
  unfold ep; omega
theorem clkE_ep {t c : Int} (a : 0 ≤ t) (b : t < 256) (d : 1 ≤ c) (e : c ≤ 1048576) : clkE (ep t c) = c := by
  unfold clkE
  rw [if_pos (okE_ep a b d e)]
  unfold ep; omega
/-- An epoch is its tid's clock. -/
theorem ep_of {e : Int} (h : okE e = true) : ∃ t c : Int, 0 ≤ t ∧ t < 256 ∧ 1 ≤ c ∧ c ≤ 1048576 ∧ e = ep t c := by
  obtain ⟨a, b, c, d⟩ := of_decide_eq_true h
  refine ⟨e / 4294967296 - 1, e % 4294967296, by omega, by omega, c, d, ?_⟩
  unfold ep; omega
theorem tidE_no {e : Int} (h : okE e = false) : tidE e = -1 := by unfold tidE; rw [if_neg (by simp [h])]
theorem clkE_no {e : Int} (h : okE e = false) : clkE e = 0 := by unfold clkE; rw [if_neg (by simp [h])]
theorem tidE_lt {e : Int} : tidE e < 0 ↔ okE e = false := by
  cases h : okE e with
  | false => rw [tidE_no h]; simp
  | true =>
    obtain ⟨t, c, a, b, d, f, rfl⟩ := ep_of h
    rw [tidE_ep a b d f]; simp; omega
end Go.Proofs.Ytkcnbkdpjlpppaa

