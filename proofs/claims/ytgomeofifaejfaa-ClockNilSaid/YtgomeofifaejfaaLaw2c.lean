/-
  The walk of the statement ClockNil (printed by wip/gen02c.py).
-/
import Derived.Test.YtgomeofifaejfaaEpochP
namespace Go.Proofs.Ytgomeofifaejfaa
open Go.RowKit
set_option linter.unusedVariables false
set_option linter.unusedSimpArgs false
set_option maxRecDepth 100000

theorem eq0_false {x : Int} (h : x ≠ 0) : (x == 0) = false := by simpa using h
theorem src_nil_form {w : World} {v : Value} (h : Src w v (trim [])) : ∃ ao cap, v = .slice ao 0 cap := by
  obtain ⟨ao, cap, rfl, _⟩ := h
  exact ⟨ao, cap, rfl⟩

set_option maxHeartbeats 1000000 in
theorem nil_tl (t n : Int) (v : Value) (l : List Int) (w : World) (hs : Src w v l) (hc : t < 0) :
    Calls Try.prog 7 #[.int .i64 t, .int .i64 n, v] w (RetB (.bool true) w) := by
  have HS : ∀ w1, Calls Try.prog 25 #[.pointer none, .int .i64 t, .int .i64 n] w1 fun r w' => r = .returned (.int .i64 1) ∧ w1 = w' := fun w1 => set_no _ t n w1 (by omega)
  have HT : ∀ w1, Calls Try.prog 23 #[.pointer none, .int .i64 t, .int .i64 n] w1 fun r w' => r = .returned (.int .i64 1) ∧ w1 = w' := fun w1 => tick_no _ t n w1 (by omega)
  by_cases ea : ofE l = 0
  · skip
    go_enter Try.func7, Try.ntmps7
    go_wp2_with fail
    refine (of_yes v l _ hs ea).mono ?_
    rintro r w1 ⟨b, g, rfl, K, B1, _, _⟩
    clear K ea
    have H1 := Lib.hid B1
    clear B1 hs
    go_wp2_with fail
    refine (join_nil _ _).mono ?_
    rintro r w' ⟨rfl, rfl⟩
    go_wp2_with fail
    refine (within_nil _ _).mono ?_
    rintro r w' ⟨rfl, rfl⟩
    go_wp2_with fail
    refine (join_of_nil b _).mono ?_
    rintro r w' ⟨rfl, rfl⟩
    go_wp2_with fail
    refine (get_nil t _).mono ?_
    rintro r w' ⟨rfl, rfl⟩
    go_wp2_with fail
    refine (HS _).mono ?_
    rintro r w' ⟨rfl, rfl⟩
    go_wp2_with fail
    refine (HT _).mono ?_
    rintro r w' ⟨rfl, rfl⟩
    go_wp2_with fail
    refine (list_nil _).mono ?_
    rintro r w' ⟨rfl, rfl⟩
    go_wp2_with fail
    refine (epoch_nil t _).mono ?_
    rintro r w' ⟨rfl, rfl⟩
    go_wp2_with fail
    refine (copy_nil _).mono ?_
    rintro r w2 ⟨rfl, K2, B2⟩
    have H2 := Lib.hid (below_trans H1.out B2 H1.out.size)
    clear B2
    go_wp2_with fail
    refine (list_any _ _ _ K2).mono ?_
    rintro r w3 ⟨v3, rfl, ho, B3⟩
    have H3 := Lib.hid (below_trans H2.out B3 H2.out.size)
    obtain ⟨ao, cap, rfl⟩ := src_nil_form (Src.of_owns ho)
    clear ho B3
    go_wp2_with fail
    refine (joins_any _).mono ?_
    rintro r w4 ⟨rfl, B4⟩
    have H4 := Lib.hid (below_trans H3.out B4 H3.out.size)
    clear B4
    go_wp2_with fail
    go_ret
    exact ⟨rfl, H4.out⟩
  · have na := eq0_false ea
    clear ea
    go_enter Try.func7, Try.ntmps7
    go_wp2_with fail
    refine (of_weak v l _ hs).mono ?_
    rintro r w1 ⟨p, rfl, B1⟩
    have H1 := Lib.hid B1
    clear B1 hs
    go_wp2_with fail
    refine (get_nil t _).mono ?_
    rintro r w' ⟨rfl, rfl⟩
    go_wp2_with fail
    refine (HS _).mono ?_
    rintro r w' ⟨rfl, rfl⟩
    go_wp2_with fail
    refine (HT _).mono ?_
    rintro r w' ⟨rfl, rfl⟩
    go_wp2_with fail
    refine (list_nil _).mono ?_
    rintro r w' ⟨rfl, rfl⟩
    go_wp2_with fail
    refine (epoch_nil t _).mono ?_
    rintro r w' ⟨rfl, rfl⟩
    go_wp2_with fail
    refine (copy_nil _).mono ?_
    rintro r w2 ⟨rfl, K2, B2⟩
    have H2 := Lib.hid (below_trans H1.out B2 H1.out.size)
    clear B2
    go_wp2_with fail
    refine (list_any _ _ _ K2).mono ?_
    rintro r w3 ⟨v3, rfl, ho, B3⟩
    have H3 := Lib.hid (below_trans H2.out B3 H2.out.size)
    obtain ⟨ao, cap, rfl⟩ := src_nil_form (Src.of_owns ho)
    clear ho B3
    go_wp2_with fail
    refine (joins_any _).mono ?_
    rintro r w4 ⟨rfl, B4⟩
    have H4 := Lib.hid (below_trans H3.out B4 H3.out.size)
    clear B4
    go_wp2_with fail
    go_ret
    exact ⟨rfl, H4.out⟩

set_option maxHeartbeats 1000000 in
theorem nil_tg (t n : Int) (v : Value) (l : List Int) (w : World) (hs : Src w v l) (hc : 255 < t) :
    Calls Try.prog 7 #[.int .i64 t, .int .i64 n, v] w (RetB (.bool true) w) := by
  have HS : ∀ w1, Calls Try.prog 25 #[.pointer none, .int .i64 t, .int .i64 n] w1 fun r w' => r = .returned (.int .i64 1) ∧ w1 = w' := fun w1 => set_no _ t n w1 (by omega)
  have HT : ∀ w1, Calls Try.prog 23 #[.pointer none, .int .i64 t, .int .i64 n] w1 fun r w' => r = .returned (.int .i64 1) ∧ w1 = w' := fun w1 => tick_no _ t n w1 (by omega)
  have hc1 : 0 ≤ t := by omega
  by_cases ea : ofE l = 0
  · skip
    go_enter Try.func7, Try.ntmps7
    go_wp2_with fail
    refine (of_yes v l _ hs ea).mono ?_
    rintro r w1 ⟨b, g, rfl, K, B1, _, _⟩
    clear K ea
    have H1 := Lib.hid B1
    clear B1 hs
    go_wp2_with fail
    refine (join_nil _ _).mono ?_
    rintro r w' ⟨rfl, rfl⟩
    go_wp2_with fail
    refine (within_nil _ _).mono ?_
    rintro r w' ⟨rfl, rfl⟩
    go_wp2_with fail
    refine (join_of_nil b _).mono ?_
    rintro r w' ⟨rfl, rfl⟩
    go_wp2_with fail
    refine (get_nil t _).mono ?_
    rintro r w' ⟨rfl, rfl⟩
    go_wp2_with fail
    refine (HS _).mono ?_
    rintro r w' ⟨rfl, rfl⟩
    go_wp2_with fail
    refine (HT _).mono ?_
    rintro r w' ⟨rfl, rfl⟩
    go_wp2_with fail
    refine (list_nil _).mono ?_
    rintro r w' ⟨rfl, rfl⟩
    go_wp2_with fail
    refine (epoch_nil t _).mono ?_
    rintro r w' ⟨rfl, rfl⟩
    go_wp2_with fail
    refine (copy_nil _).mono ?_
    rintro r w2 ⟨rfl, K2, B2⟩
    have H2 := Lib.hid (below_trans H1.out B2 H1.out.size)
    clear B2
    go_wp2_with fail
    refine (list_any _ _ _ K2).mono ?_
    rintro r w3 ⟨v3, rfl, ho, B3⟩
    have H3 := Lib.hid (below_trans H2.out B3 H2.out.size)
    obtain ⟨ao, cap, rfl⟩ := src_nil_form (Src.of_owns ho)
    clear ho B3
    go_wp2_with fail
    refine (joins_any _).mono ?_
    rintro r w4 ⟨rfl, B4⟩
    have H4 := Lib.hid (below_trans H3.out B4 H3.out.size)
    clear B4
    go_wp2_with fail
    go_ret
    exact ⟨rfl, H4.out⟩
  · have na := eq0_false ea
    clear ea
    go_enter Try.func7, Try.ntmps7
    go_wp2_with fail
    refine (of_weak v l _ hs).mono ?_
    rintro r w1 ⟨p, rfl, B1⟩
    have H1 := Lib.hid B1
    clear B1 hs
    go_wp2_with fail
    refine (get_nil t _).mono ?_
    rintro r w' ⟨rfl, rfl⟩
    go_wp2_with fail
    refine (HS _).mono ?_
    rintro r w' ⟨rfl, rfl⟩
    go_wp2_with fail
    refine (HT _).mono ?_
    rintro r w' ⟨rfl, rfl⟩
    go_wp2_with fail
    refine (list_nil _).mono ?_
    rintro r w' ⟨rfl, rfl⟩
    go_wp2_with fail
    refine (epoch_nil t _).mono ?_
    rintro r w' ⟨rfl, rfl⟩
    go_wp2_with fail
    refine (copy_nil _).mono ?_
    rintro r w2 ⟨rfl, K2, B2⟩
    have H2 := Lib.hid (below_trans H1.out B2 H1.out.size)
    clear B2
    go_wp2_with fail
    refine (list_any _ _ _ K2).mono ?_
    rintro r w3 ⟨v3, rfl, ho, B3⟩
    have H3 := Lib.hid (below_trans H2.out B3 H2.out.size)
    obtain ⟨ao, cap, rfl⟩ := src_nil_form (Src.of_owns ho)
    clear ho B3
    go_wp2_with fail
    refine (joins_any _).mono ?_
    rintro r w4 ⟨rfl, B4⟩
    have H4 := Lib.hid (below_trans H3.out B4 H3.out.size)
    clear B4
    go_wp2_with fail
    go_ret
    exact ⟨rfl, H4.out⟩

set_option maxHeartbeats 1000000 in
theorem nil_nl (t n : Int) (v : Value) (l : List Int) (w : World) (hs : Src w v l) (hc : n < 0) (ht : 0 ≤ t ∧ t ≤ 255) :
    Calls Try.prog 7 #[.int .i64 t, .int .i64 n, v] w (RetB (.bool true) w) := by
  have HS : ∀ w1, Calls Try.prog 25 #[.pointer none, .int .i64 t, .int .i64 n] w1 fun r w' => r = .returned (.int .i64 1) ∧ w1 = w' := fun w1 => set_no _ t n w1 (by omega)
  have HT : ∀ w1, Calls Try.prog 23 #[.pointer none, .int .i64 t, .int .i64 n] w1 fun r w' => r = .returned (.int .i64 1) ∧ w1 = w' := fun w1 => tick_no _ t n w1 (by omega)
  obtain ⟨ht1, ht2⟩ := ht
  by_cases ea : ofE l = 0
  · skip
    go_enter Try.func7, Try.ntmps7
    go_wp2_with fail
    refine (of_yes v l _ hs ea).mono ?_
    rintro r w1 ⟨b, g, rfl, K, B1, _, _⟩
    clear K ea
    have H1 := Lib.hid B1
    clear B1 hs
    go_wp2_with fail
    refine (join_nil _ _).mono ?_
    rintro r w' ⟨rfl, rfl⟩
    go_wp2_with fail
    refine (within_nil _ _).mono ?_
    rintro r w' ⟨rfl, rfl⟩
    go_wp2_with fail
    refine (join_of_nil b _).mono ?_
    rintro r w' ⟨rfl, rfl⟩
    go_wp2_with fail
    refine (get_nil t _).mono ?_
    rintro r w' ⟨rfl, rfl⟩
    go_wp2_with fail
    refine (HS _).mono ?_
    rintro r w' ⟨rfl, rfl⟩
    go_wp2_with fail
    refine (HT _).mono ?_
    rintro r w' ⟨rfl, rfl⟩
    go_wp2_with fail
    refine (list_nil _).mono ?_
    rintro r w' ⟨rfl, rfl⟩
    go_wp2_with fail
    refine (epoch_nil t _).mono ?_
    rintro r w' ⟨rfl, rfl⟩
    go_wp2_with fail
    refine (copy_nil _).mono ?_
    rintro r w2 ⟨rfl, K2, B2⟩
    have H2 := Lib.hid (below_trans H1.out B2 H1.out.size)
    clear B2
    go_wp2_with fail
    refine (list_any _ _ _ K2).mono ?_
    rintro r w3 ⟨v3, rfl, ho, B3⟩
    have H3 := Lib.hid (below_trans H2.out B3 H2.out.size)
    obtain ⟨ao, cap, rfl⟩ := src_nil_form (Src.of_owns ho)
    clear ho B3
    go_wp2_with fail
    refine (joins_any _).mono ?_
    rintro r w4 ⟨rfl, B4⟩
    have H4 := Lib.hid (below_trans H3.out B4 H3.out.size)
    clear B4
    go_wp2_with fail
    go_ret
    exact ⟨rfl, H4.out⟩
  · have na := eq0_false ea
    clear ea
    go_enter Try.func7, Try.ntmps7
    go_wp2_with fail
    refine (of_weak v l _ hs).mono ?_
    rintro r w1 ⟨p, rfl, B1⟩
    have H1 := Lib.hid B1
    clear B1 hs
    go_wp2_with fail
    refine (get_nil t _).mono ?_
    rintro r w' ⟨rfl, rfl⟩
    go_wp2_with fail
    refine (HS _).mono ?_
    rintro r w' ⟨rfl, rfl⟩
    go_wp2_with fail
    refine (HT _).mono ?_
    rintro r w' ⟨rfl, rfl⟩
    go_wp2_with fail
    refine (list_nil _).mono ?_
    rintro r w' ⟨rfl, rfl⟩
    go_wp2_with fail
    refine (epoch_nil t _).mono ?_
    rintro r w' ⟨rfl, rfl⟩
    go_wp2_with fail
    refine (copy_nil _).mono ?_
    rintro r w2 ⟨rfl, K2, B2⟩
    have H2 := Lib.hid (below_trans H1.out B2 H1.out.size)
    clear B2
    go_wp2_with fail
    refine (list_any _ _ _ K2).mono ?_
    rintro r w3 ⟨v3, rfl, ho, B3⟩
    have H3 := Lib.hid (below_trans H2.out B3 H2.out.size)
    obtain ⟨ao, cap, rfl⟩ := src_nil_form (Src.of_owns ho)
    clear ho B3
    go_wp2_with fail
    refine (joins_any _).mono ?_
    rintro r w4 ⟨rfl, B4⟩
    have H4 := Lib.hid (below_trans H3.out B4 H3.out.size)
    clear B4
    go_wp2_with fail
    go_ret
    exact ⟨rfl, H4.out⟩

set_option maxHeartbeats 1000000 in
theorem nil_nz (t n : Int) (v : Value) (l : List Int) (w : World) (hs : Src w v l) (hc : n = 0) (ht : 0 ≤ t ∧ t ≤ 255) :
    Calls Try.prog 7 #[.int .i64 t, .int .i64 n, v] w (RetB (.bool true) w) := by
  have HS : ∀ w1, Calls Try.prog 25 #[.pointer none, .int .i64 t, .int .i64 n] w1 fun r w' => r = .returned (.int .i64 7) ∧ w1 = w' := fun w1 => set_nil t n w1 (by omega)
  have HT : ∀ w1, Calls Try.prog 23 #[.pointer none, .int .i64 t, .int .i64 n] w1 fun r w' => r = .returned (.int .i64 1) ∧ w1 = w' := fun w1 => tick_no _ t n w1 (by omega)
  obtain ⟨ht1, ht2⟩ := ht
  subst hc
  by_cases ea : ofE l = 0
  · skip
    go_enter Try.func7, Try.ntmps7
    go_wp2_with fail
    refine (of_yes v l _ hs ea).mono ?_
    rintro r w1 ⟨b, g, rfl, K, B1, _, _⟩
    clear K ea
    have H1 := Lib.hid B1
    clear B1 hs
    go_wp2_with fail
    refine (join_nil _ _).mono ?_
    rintro r w' ⟨rfl, rfl⟩
    go_wp2_with fail
    refine (within_nil _ _).mono ?_
    rintro r w' ⟨rfl, rfl⟩
    go_wp2_with fail
    refine (join_of_nil b _).mono ?_
    rintro r w' ⟨rfl, rfl⟩
    go_wp2_with fail
    refine (get_nil t _).mono ?_
    rintro r w' ⟨rfl, rfl⟩
    go_wp2_with fail
    refine (HS _).mono ?_
    rintro r w' ⟨rfl, rfl⟩
    go_wp2_with fail
    refine (HT _).mono ?_
    rintro r w' ⟨rfl, rfl⟩
    go_wp2_with fail
    refine (list_nil _).mono ?_
    rintro r w' ⟨rfl, rfl⟩
    go_wp2_with fail
    refine (epoch_nil t _).mono ?_
    rintro r w' ⟨rfl, rfl⟩
    go_wp2_with fail
    refine (copy_nil _).mono ?_
    rintro r w2 ⟨rfl, K2, B2⟩
    have H2 := Lib.hid (below_trans H1.out B2 H1.out.size)
    clear B2
    go_wp2_with fail
    refine (list_any _ _ _ K2).mono ?_
    rintro r w3 ⟨v3, rfl, ho, B3⟩
    have H3 := Lib.hid (below_trans H2.out B3 H2.out.size)
    obtain ⟨ao, cap, rfl⟩ := src_nil_form (Src.of_owns ho)
    clear ho B3
    go_wp2_with fail
    refine (joins_any _).mono ?_
    rintro r w4 ⟨rfl, B4⟩
    have H4 := Lib.hid (below_trans H3.out B4 H3.out.size)
    clear B4
    go_wp2_with fail
    go_ret
    exact ⟨rfl, H4.out⟩
  · have na := eq0_false ea
    clear ea
    go_enter Try.func7, Try.ntmps7
    go_wp2_with fail
    refine (of_weak v l _ hs).mono ?_
    rintro r w1 ⟨p, rfl, B1⟩
    have H1 := Lib.hid B1
    clear B1 hs
    go_wp2_with fail
    refine (get_nil t _).mono ?_
    rintro r w' ⟨rfl, rfl⟩
    go_wp2_with fail
    refine (HS _).mono ?_
    rintro r w' ⟨rfl, rfl⟩
    go_wp2_with fail
    refine (HT _).mono ?_
    rintro r w' ⟨rfl, rfl⟩
    go_wp2_with fail
    refine (list_nil _).mono ?_
    rintro r w' ⟨rfl, rfl⟩
    go_wp2_with fail
    refine (epoch_nil t _).mono ?_
    rintro r w' ⟨rfl, rfl⟩
    go_wp2_with fail
    refine (copy_nil _).mono ?_
    rintro r w2 ⟨rfl, K2, B2⟩
    have H2 := Lib.hid (below_trans H1.out B2 H1.out.size)
    clear B2
    go_wp2_with fail
    refine (list_any _ _ _ K2).mono ?_
    rintro r w3 ⟨v3, rfl, ho, B3⟩
    have H3 := Lib.hid (below_trans H2.out B3 H2.out.size)
    obtain ⟨ao, cap, rfl⟩ := src_nil_form (Src.of_owns ho)
    clear ho B3
    go_wp2_with fail
    refine (joins_any _).mono ?_
    rintro r w4 ⟨rfl, B4⟩
    have H4 := Lib.hid (below_trans H3.out B4 H3.out.size)
    clear B4
    go_wp2_with fail
    go_ret
    exact ⟨rfl, H4.out⟩

set_option maxHeartbeats 1000000 in
theorem nil_nm (t n : Int) (v : Value) (l : List Int) (w : World) (hs : Src w v l) (hc : 1 ≤ n ∧ n ≤ 1048576) (ht : 0 ≤ t ∧ t ≤ 255) :
    Calls Try.prog 7 #[.int .i64 t, .int .i64 n, v] w (RetB (.bool true) w) := by
  have HS : ∀ w1, Calls Try.prog 25 #[.pointer none, .int .i64 t, .int .i64 n] w1 fun r w' => r = .returned (.int .i64 7) ∧ w1 = w' := fun w1 => set_nil t n w1 (by omega)
  have HT : ∀ w1, Calls Try.prog 23 #[.pointer none, .int .i64 t, .int .i64 n] w1 fun r w' => r = .returned (.int .i64 7) ∧ w1 = w' := fun w1 => tick_nil t n w1 (by omega)
  obtain ⟨ht1, ht2⟩ := ht
  obtain ⟨hc1, hc2⟩ := hc
  have hc3 : 0 ≤ n := by omega
  by_cases ea : ofE l = 0
  · skip
    go_enter Try.func7, Try.ntmps7
    go_wp2_with fail
    refine (of_yes v l _ hs ea).mono ?_
    rintro r w1 ⟨b, g, rfl, K, B1, _, _⟩
    clear K ea
    have H1 := Lib.hid B1
    clear B1 hs
    go_wp2_with fail
    refine (join_nil _ _).mono ?_
    rintro r w' ⟨rfl, rfl⟩
    go_wp2_with fail
    refine (within_nil _ _).mono ?_
    rintro r w' ⟨rfl, rfl⟩
    go_wp2_with fail
    refine (join_of_nil b _).mono ?_
    rintro r w' ⟨rfl, rfl⟩
    go_wp2_with fail
    refine (get_nil t _).mono ?_
    rintro r w' ⟨rfl, rfl⟩
    go_wp2_with fail
    refine (HS _).mono ?_
    rintro r w' ⟨rfl, rfl⟩
    go_wp2_with fail
    refine (HT _).mono ?_
    rintro r w' ⟨rfl, rfl⟩
    go_wp2_with fail
    refine (list_nil _).mono ?_
    rintro r w' ⟨rfl, rfl⟩
    go_wp2_with fail
    refine (epoch_nil t _).mono ?_
    rintro r w' ⟨rfl, rfl⟩
    go_wp2_with fail
    refine (copy_nil _).mono ?_
    rintro r w2 ⟨rfl, K2, B2⟩
    have H2 := Lib.hid (below_trans H1.out B2 H1.out.size)
    clear B2
    go_wp2_with fail
    refine (list_any _ _ _ K2).mono ?_
    rintro r w3 ⟨v3, rfl, ho, B3⟩
    have H3 := Lib.hid (below_trans H2.out B3 H2.out.size)
    obtain ⟨ao, cap, rfl⟩ := src_nil_form (Src.of_owns ho)
    clear ho B3
    go_wp2_with fail
    refine (joins_any _).mono ?_
    rintro r w4 ⟨rfl, B4⟩
    have H4 := Lib.hid (below_trans H3.out B4 H3.out.size)
    clear B4
    go_wp2_with fail
    go_ret
    exact ⟨rfl, H4.out⟩
  · have na := eq0_false ea
    clear ea
    go_enter Try.func7, Try.ntmps7
    go_wp2_with fail
    refine (of_weak v l _ hs).mono ?_
    rintro r w1 ⟨p, rfl, B1⟩
    have H1 := Lib.hid B1
    clear B1 hs
    go_wp2_with fail
    refine (get_nil t _).mono ?_
    rintro r w' ⟨rfl, rfl⟩
    go_wp2_with fail
    refine (HS _).mono ?_
    rintro r w' ⟨rfl, rfl⟩
    go_wp2_with fail
    refine (HT _).mono ?_
    rintro r w' ⟨rfl, rfl⟩
    go_wp2_with fail
    refine (list_nil _).mono ?_
    rintro r w' ⟨rfl, rfl⟩
    go_wp2_with fail
    refine (epoch_nil t _).mono ?_
    rintro r w' ⟨rfl, rfl⟩
    go_wp2_with fail
    refine (copy_nil _).mono ?_
    rintro r w2 ⟨rfl, K2, B2⟩
    have H2 := Lib.hid (below_trans H1.out B2 H1.out.size)
    clear B2
    go_wp2_with fail
    refine (list_any _ _ _ K2).mono ?_
    rintro r w3 ⟨v3, rfl, ho, B3⟩
    have H3 := Lib.hid (below_trans H2.out B3 H2.out.size)
    obtain ⟨ao, cap, rfl⟩ := src_nil_form (Src.of_owns ho)
    clear ho B3
    go_wp2_with fail
    refine (joins_any _).mono ?_
    rintro r w4 ⟨rfl, B4⟩
    have H4 := Lib.hid (below_trans H3.out B4 H3.out.size)
    clear B4
    go_wp2_with fail
    go_ret
    exact ⟨rfl, H4.out⟩

set_option maxHeartbeats 1000000 in
theorem nil_ng (t n : Int) (v : Value) (l : List Int) (w : World) (hs : Src w v l) (hc : 1048576 < n) (ht : 0 ≤ t ∧ t ≤ 255) :
    Calls Try.prog 7 #[.int .i64 t, .int .i64 n, v] w (RetB (.bool true) w) := by
  have HS : ∀ w1, Calls Try.prog 25 #[.pointer none, .int .i64 t, .int .i64 n] w1 fun r w' => r = .returned (.int .i64 1) ∧ w1 = w' := fun w1 => set_no _ t n w1 (by omega)
  have HT : ∀ w1, Calls Try.prog 23 #[.pointer none, .int .i64 t, .int .i64 n] w1 fun r w' => r = .returned (.int .i64 1) ∧ w1 = w' := fun w1 => tick_no _ t n w1 (by omega)
  obtain ⟨ht1, ht2⟩ := ht
  have hc1 : 1 ≤ n := by omega
  have hc2 : 0 ≤ n := by omega
  have hcd : decide (n ≤ 1048576) = false := decide_eq_false (by omega)
  by_cases ea : ofE l = 0
  · skip
    go_enter Try.func7, Try.ntmps7
    go_wp2_with fail
    refine (of_yes v l _ hs ea).mono ?_
    rintro r w1 ⟨b, g, rfl, K, B1, _, _⟩
    clear K ea
    have H1 := Lib.hid B1
    clear B1 hs
    go_wp2_with fail
    refine (join_nil _ _).mono ?_
    rintro r w' ⟨rfl, rfl⟩
    go_wp2_with fail
    refine (within_nil _ _).mono ?_
    rintro r w' ⟨rfl, rfl⟩
    go_wp2_with fail
    refine (join_of_nil b _).mono ?_
    rintro r w' ⟨rfl, rfl⟩
    go_wp2_with fail
    refine (get_nil t _).mono ?_
    rintro r w' ⟨rfl, rfl⟩
    go_wp2_with fail
    refine (HS _).mono ?_
    rintro r w' ⟨rfl, rfl⟩
    go_wp2_with fail
    refine (HT _).mono ?_
    rintro r w' ⟨rfl, rfl⟩
    go_wp2_with fail
    refine (list_nil _).mono ?_
    rintro r w' ⟨rfl, rfl⟩
    go_wp2_with fail
    refine (epoch_nil t _).mono ?_
    rintro r w' ⟨rfl, rfl⟩
    go_wp2_with fail
    refine (copy_nil _).mono ?_
    rintro r w2 ⟨rfl, K2, B2⟩
    have H2 := Lib.hid (below_trans H1.out B2 H1.out.size)
    clear B2
    go_wp2_with fail
    refine (list_any _ _ _ K2).mono ?_
    rintro r w3 ⟨v3, rfl, ho, B3⟩
    have H3 := Lib.hid (below_trans H2.out B3 H2.out.size)
    obtain ⟨ao, cap, rfl⟩ := src_nil_form (Src.of_owns ho)
    clear ho B3
    go_wp2_with fail
    refine (joins_any _).mono ?_
    rintro r w4 ⟨rfl, B4⟩
    have H4 := Lib.hid (below_trans H3.out B4 H3.out.size)
    clear B4
    go_wp2_with fail
    go_ret
    exact ⟨rfl, H4.out⟩
  · have na := eq0_false ea
    clear ea
    go_enter Try.func7, Try.ntmps7
    go_wp2_with fail
    refine (of_weak v l _ hs).mono ?_
    rintro r w1 ⟨p, rfl, B1⟩
    have H1 := Lib.hid B1
    clear B1 hs
    go_wp2_with fail
    refine (get_nil t _).mono ?_
    rintro r w' ⟨rfl, rfl⟩
    go_wp2_with fail
    refine (HS _).mono ?_
    rintro r w' ⟨rfl, rfl⟩
    go_wp2_with fail
    refine (HT _).mono ?_
    rintro r w' ⟨rfl, rfl⟩
    go_wp2_with fail
    refine (list_nil _).mono ?_
    rintro r w' ⟨rfl, rfl⟩
    go_wp2_with fail
    refine (epoch_nil t _).mono ?_
    rintro r w' ⟨rfl, rfl⟩
    go_wp2_with fail
    refine (copy_nil _).mono ?_
    rintro r w2 ⟨rfl, K2, B2⟩
    have H2 := Lib.hid (below_trans H1.out B2 H1.out.size)
    clear B2
    go_wp2_with fail
    refine (list_any _ _ _ K2).mono ?_
    rintro r w3 ⟨v3, rfl, ho, B3⟩
    have H3 := Lib.hid (below_trans H2.out B3 H2.out.size)
    obtain ⟨ao, cap, rfl⟩ := src_nil_form (Src.of_owns ho)
    clear ho B3
    go_wp2_with fail
    refine (joins_any _).mono ?_
    rintro r w4 ⟨rfl, B4⟩
    have H4 := Lib.hid (below_trans H3.out B4 H3.out.size)
    clear B4
    go_wp2_with fail
    go_ret
    exact ⟨rfl, H4.out⟩

theorem nil_law (t n : Int) (v : Value) (l : List Int) (w : World) (hs : Src w v l) :
    Calls Try.prog 7 #[.int .i64 t, .int .i64 n, v] w (RetB (.bool true) w) := by
  by_cases h1 : t < 0
  · exact nil_tl t n v l w hs h1
  by_cases h2 : 255 < t
  · exact nil_tg t n v l w hs h2
  have ht : 0 ≤ t ∧ t ≤ 255 := by omega
  by_cases h3 : n < 0
  · exact nil_nl t n v l w hs h3 ht
  by_cases h4 : n = 0
  · exact nil_nz t n v l w hs h4 ht
  by_cases h5 : n ≤ 1048576
  · exact nil_nm t n v l w hs (by omega) ht
  · exact nil_ng t n v l w hs (by omega) ht

end Go.Proofs.Ytgomeofifaejfaa
