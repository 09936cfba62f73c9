/-
  The walks of the statements of layer 3 on single numbers: each law's call returns true; no old memory is written.
-/
import Derived.Test.YtkpjihbdgibcjaaRef3
namespace Go.Proofs.Ytkpjihbdgibcjaa
open Go.RowKit
set_option linter.unusedVariables false
set_option linter.unusedSimpArgs false
set_option maxRecDepth 100000

def RetB (v : Value) (w : World) (r : Ending) (w' : World) : Prop := r = .returned v ∧ Below w.heap.size w w'

theorem enc256 : enc 256 = [242, 1, 0] := by
  have h : nby 256 = 2 := by rw [nby_big (by decide), nby_small (by decide)]
  rw [enc_big (by decide), h]
  decide
theorem sizeN239 : sizeN 239 = 1 := by rw [sizeN, if_pos (by decide)]
theorem tak_lit : tak [242, 1, 0, 97] = some (256, 3) := by
  have h := tak_enc (n := 256) (by decide) [97]
  rw [enc256] at h
  have h2 : sizeN 256 = 3 := by rw [← length_enc, enc256]; rfl
  rw [h2] at h
  exact h

theorem put256 (w : World) : Calls Try.prog 9 #[.int .i64 256] w fun r w' => r = .returned (.tuple #[bs [242, 1, 0], .int .i64 0]) ∧ Below w.heap.size w w' := by
  have := put_yes 256 w (by decide)
  rwa [enc256] at this
theorem take256 (w : World) : Calls Try.prog 13 #[.string { data := #[242, 1, 0, 97] }] w fun e w' => e = .returned (.tuple #[.int .i64 256, bs [97], .int .i64 0]) ∧ ∃ n, w' = w.drewN n := by
  have := take_any [242, 1, 0, 97] w (by decide)
  simp only [takV, takR, takE, tak_lit] at this
  exact this
theorem size239 (w : World) : Calls Try.prog 11 #[.int .i64 239] w fun r w' => r = .returned (.int .i64 1) ∧ w = w' := by
  have := size_yes 239 w (by decide)
  rw [sizeN239] at this
  exact this

theorem long_any (w : World) : Calls Try.prog 12 #[] w (RetB (.bool true) w) := by
  go_enter Try.func12, Try.ntmps12
  go_wp2_with fail
  refine (put256 _).mono ?_
  rintro r w1 ⟨rfl, hb⟩
  go_wp2_with fail
  refine (take256 _).mono ?_
  rintro r w2 ⟨rfl, n, rfl⟩
  go_wp2_with (go_at_call 11; refine (size239 _).mono ?_; rintro r w' ⟨rfl, rfl⟩)
  go_ret
  exact ⟨rfl, below_drewN hb _⟩

theorem sizeI_len (n : Int) : sizeI n = ((putS n).length : Int) := by
  unfold sizeI putS
  split
  · rw [length_enc]
  · rfl

theorem puts_law (n : Int) (w : World) : Calls Try.prog 3 #[.int .i64 n] w (RetB (.bool true) w) := by
  have S := Lib.hid (sizeI_len n)
  go_enter Try.func3, Try.ntmps3
  go_wp2_with fail
  refine (put_any _ _).mono ?_
  rintro r w1 ⟨rfl, hb⟩
  go_wp2_with fail
  refine (ref_put_any _ _).mono ?_
  rintro r w2 ⟨rfl, hb2⟩
  have hb3 := below_next hb hb2
  clear hb hb2
  go_wp2_with fail
  refine (size_any _ _).mono ?_
  rintro r w' ⟨rfl, rfl⟩
  rw [S.out]
  go_wp2_with fail
  refine (long_any _).mono ?_
  rintro r w' ⟨rfl, hb⟩
  go_wp2
  go_ret
  exact ⟨rfl, below_next hb3 hb⟩

theorem takZ_drop (l : List UInt8) {n z : Nat} (h : tak l = some (n, z)) : takV l = n ∧ takN l = n ∧ takZ l = z ∧ takR l = l.drop z ∧ takE l = 0 ∧ z ≤ l.length := by
  refine ⟨by simp [takV, h], by simp [takN, h], by simp [takZ, h], by simp [takR, h], by simp [takE, h], (tak_some h).2.2.1⟩

set_option maxHeartbeats 1000000 in
theorem takes_law (l : List UInt8) (w : World) (hl : l.length ≤ 140737488351232) : Calls Try.prog 4 #[bs l] w (RetB (.bool true) w) := by
  cases ht : tak l with
  | none =>
    have F := Lib.hid (show takV l = 0 ∧ takR l = [] ∧ takE l = 4 ∧ takN l = 0 ∧ takZ l = 0 by simp [takV, takR, takE, takN, takZ, ht])
    clear ht
    go_enter Try.func4, Try.ntmps4
    go_wp2_with fail
    refine (take_any l _ hl).mono ?_
    rintro r w2 ⟨rfl, n, rfl⟩
    rw [F.out.1, F.out.2.1, F.out.2.2.1]
    go_wp2_with fail
    refine (ref_take_any l _ hl).mono ?_
    rintro r w1 ⟨rfl, hb⟩
    unfold tkV
    rw [F.out.2.2.1, F.out.2.2.2.1, F.out.2.2.2.2]
    go_wp2_with fail
    refine (long_any _).mono ?_
    rintro r w' ⟨rfl, hb2⟩
    go_wp2
    go_ret
    exact ⟨rfl, below_next ((below_next (below_drewN (Below.refl _ _) n) hb).alloc (below_next (below_drewN (Below.refl _ _) n) hb).size _) hb2⟩
  | some p =>
    obtain ⟨n, z⟩ := p
    obtain ⟨f1, f2, f3, f4, f5, hz⟩ := takZ_drop l ht
    have F := Lib.hid (show takV l = n ∧ takR l = l.drop z ∧ takE l = 0 ∧ takN l = n ∧ takZ l = z from ⟨f1, f4, f5, f2, f3⟩)
    clear ht f1 f2 f3 f4 f5
    go_enter Try.func4, Try.ntmps4
    go_wp2_with fail
    refine (take_any l _ hl).mono ?_
    rintro r w2 ⟨rfl, m, rfl⟩
    rw [F.out.1, F.out.2.1, F.out.2.2.1]
    go_wp2_with fail
    refine (ref_take_any l _ hl).mono ?_
    rintro r w1 ⟨rfl, hb⟩
    unfold tkV
    rw [F.out.2.2.1, F.out.2.2.2.1, F.out.2.2.2.2]
    go_wp2_with fail
    refine (long_any _).mono ?_
    rintro r w' ⟨rfl, hb2⟩
    go_wp2
    go_ret
    exact ⟨rfl, below_next ((below_next (below_drewN (Below.refl _ _) m) hb).alloc (below_next (below_drewN (Below.refl _ _) m) hb).size _) hb2⟩


theorem sizeI_ok {n : Int} (h : okN n = true) : 1 ≤ sizeI n ∧ sizeI n ≤ 7 := by
  obtain ⟨a, b⟩ := of_decide_eq_true h
  have h1 := sizeN_pos n.toNat
  have h2 := sizeN_most (n := n.toNat) (by unfold mostN; omega)
  simp only [sizeI, h, if_true]
  omega
theorem sizeI_no {n : Int} (h : okN n = false) : sizeI n = 0 := by simp [sizeI, h]
theorem sizeI_mono {a b : Int} (ha : okN a = true) (hb : okN b = true) (h : a ≤ b) : sizeI a ≤ sizeI b := by
  have := sizeN_mono (a := a.toNat) (b := b.toNat) (by omega)
  simp only [sizeI, ha, hb, if_true]
  omega

set_option maxHeartbeats 2000000 in
theorem sizes_law (a b : Int) (w : World) : Calls Try.prog 5 #[.int .i64 a, .int .i64 b] w (RetB (.bool true) w) := by
  cases ha : okN a with
  | true =>
    obtain ⟨a1, a2⟩ := of_decide_eq_true ha
    obtain ⟨x1, x2⟩ := sizeI_ok ha
    cases hb : okN b with
    | true =>
      obtain ⟨b1, b2⟩ := of_decide_eq_true hb
      obtain ⟨y1, y2⟩ := sizeI_ok hb
      by_cases hab : a ≤ b
      · have hm := sizeI_mono ha hb hab
        clear ha hb
        go_enter Try.func5, Try.ntmps5
        go_wp2_with (first | (go_at_call 11; refine (size_any _ _).mono ?_; rintro r w' ⟨rfl, rfl⟩) | (go_at_call 12; refine (long_any _).mono ?_; rintro r w' ⟨rfl, hbb⟩))
        all_goals (go_ret; exact ⟨rfl, by assumption⟩)
      · have hab2 : b < a := by omega
        clear ha hb hab
        go_enter Try.func5, Try.ntmps5
        go_wp2_with (first | (go_at_call 11; refine (size_any _ _).mono ?_; rintro r w' ⟨rfl, rfl⟩) | (go_at_call 12; refine (long_any _).mono ?_; rintro r w' ⟨rfl, hbb⟩))
        all_goals (go_ret; exact ⟨rfl, by assumption⟩)
    | false =>
      have hn := of_decide_eq_false hb
      have y0 := sizeI_no hb
      have x0 : (sizeI a == 0) = false := by simp; omega
      have p1 : decide (a < 0) = false := decide_eq_false (by omega)
      have p2 : decide (1099511627776 < a) = false := decide_eq_false (by omega)
      clear ha hb
      by_cases hb0 : b < 0
      · have d1 : decide (1099511627776 < b) = false := decide_eq_false (by omega)
        clear hn
        go_enter Try.func5, Try.ntmps5
        go_wp2_with (first | (go_at_call 11; refine (size_any _ _).mono ?_; rintro r w' ⟨rfl, rfl⟩) | (go_at_call 12; refine (long_any _).mono ?_; rintro r w' ⟨rfl, hbb⟩))
        all_goals (go_ret; exact ⟨rfl, by assumption⟩)
      · have hb1 : 1099511627776 < b := by omega
        have hb2 : 0 ≤ b := by omega
        clear hn hb0
        go_enter Try.func5, Try.ntmps5
        go_wp2_with (first | (go_at_call 11; refine (size_any _ _).mono ?_; rintro r w' ⟨rfl, rfl⟩) | (go_at_call 12; refine (long_any _).mono ?_; rintro r w' ⟨rfl, hbb⟩))
        all_goals (go_ret; exact ⟨rfl, by assumption⟩)
  | false =>
    have x0 := sizeI_no ha
    have hn := of_decide_eq_false ha
    clear ha
    cases hb : okN b with
    | true =>
      obtain ⟨b1, b2⟩ := of_decide_eq_true hb
      obtain ⟨y1, y2⟩ := sizeI_ok hb
      have y0 : (sizeI b == 0) = false := by simp; omega
      have p1 : decide (b < 0) = false := decide_eq_false (by omega)
      have p2 : decide (1099511627776 < b) = false := decide_eq_false (by omega)
      clear hb
      by_cases ha0 : a < 0
      · clear hn
        go_enter Try.func5, Try.ntmps5
        go_wp2_with (first | (go_at_call 11; refine (size_any _ _).mono ?_; rintro r w' ⟨rfl, rfl⟩) | (go_at_call 12; refine (long_any _).mono ?_; rintro r w' ⟨rfl, hbb⟩))
        all_goals (go_ret; exact ⟨rfl, by assumption⟩)
      · have ha1 : 1099511627776 < a := by omega
        have ha2 : 0 ≤ a := by omega
        clear hn ha0
        go_enter Try.func5, Try.ntmps5
        go_wp2_with (first | (go_at_call 11; refine (size_any _ _).mono ?_; rintro r w' ⟨rfl, rfl⟩) | (go_at_call 12; refine (long_any _).mono ?_; rintro r w' ⟨rfl, hbb⟩))
        all_goals (go_ret; exact ⟨rfl, by assumption⟩)
    | false =>
      have hm := of_decide_eq_false hb
      have y0 := sizeI_no hb
      clear hb
      have ha3 : a < 0 ∨ (1099511627776 < a ∧ 0 ≤ a) := by omega
      have hb3 : b < 0 ∨ (1099511627776 < b ∧ 0 ≤ b) := by omega
      clear hn hm
      rcases ha3 with ha0 | ⟨ha0, ha1⟩ <;> rcases hb3 with hb0 | ⟨hb0, hb1⟩
      all_goals
        go_enter Try.func5, Try.ntmps5
        go_wp2_with (first | (go_at_call 11; refine (size_any _ _).mono ?_; rintro r w' ⟨rfl, rfl⟩) | (go_at_call 12; refine (long_any _).mono ?_; rintro r w' ⟨rfl, hbb⟩))
        all_goals (go_ret; exact ⟨rfl, by assumption⟩)


theorem bs_of (s : ByteArray) : Value.string s = bs s.data.toList := by
  unfold bs; rw [Array.toArray_toList]
theorem takes_row (s : ByteArray) (w : World) (h : s.size ≤ 140737488351232) : Calls Try.prog 4 #[.string s] w (RetB (.bool true) w) := by
  rw [bs_of]
  exact takes_law _ w (by rw [Array.length_toList]; exact h)

end Go.Proofs.Ytkpjihbdgibcjaa
