
/-
  The law DeedBack.
-/
import Derived.Test.YtobgdchlblhaiaaLaw4a
import Derived.Test.YtobgdchlblhaiaaDeeR
namespace Go.Proofs.Ytobgdchlblhaiaa
open Go.RowKit
set_option linter.unusedVariables false
set_option linter.unusedSimpArgs false
set_option maxRecDepth 100000

theorem encO_len (o : Opn) (p : Int) : (encO o p).length ≤ 200 := by
  unfold encO
  split
  · rename_i h
    have h1 := (chkO_zero h).2.2.1
    have h2 := numsO_len o p
    have h3 := flat_len (numsO o p)
    omega
  · simp
set_option maxHeartbeats 4000000 in
theorem dback_law (o : Opn) (v : Value) (p : Int) (s : List UInt8) (w : World) (h : CssOf w v o.cs) (hs : s.length ≤ 140737488351232) : Calls Try.prog 5 #[opV v o, .int .i64 p, bs s] w (LawPost w) := by
  have P1 := fun w h => Lib.hid (dencode_any o v p w h)
  have P4 : ∀ w : World, Hid (Calls Try.prog 11 #[bs s, .int .i64 p] w fun r w' => ∃ v, r = .returned (.tuple #[opV v (decO s p), bs (decOR s p), .int .i64 (decOF s p)]) ∧ CssOf w' v (decO s p).cs ∧ Below w.heap.size w w') := fun w => Lib.hid (ddecode_any s p w hs)
  have ED := Lib.hid (fun h => enc_dec (s := s) (p := p) h)
  have XL := encO_len o p
  have DE : Hid (chkO o p = 0 → decO (encO o p ++ s) p = o ∧ decOR (encO o p ++ s) p = s ∧ decOF (encO o p ++ s) p = 0) := Lib.hid (fun h => dec_enc h s)
  have P2 : ∀ (w : World), (encO o p ++ s).length ≤ 140737488351232 → Hid (Calls Try.prog 11 #[bs (encO o p ++ s), .int .i64 p] w fun r w' => ∃ v, r = .returned (.tuple #[opV v (decO (encO o p ++ s) p), bs (decOR (encO o p ++ s) p), .int .i64 (decOF (encO o p ++ s) p)]) ∧ CssOf w' v (decO (encO o p ++ s) p).cs ∧ Below w.heap.size w w') := fun w h => Lib.hid (ddecode_any _ p w h)
  have P3 := fun v' w h h' hn => Lib.hid (op_any o o v' v w h h' hn)
  rw [show decide (o = o) = true from decide_eq_true rfl] at P3
  obtain ⟨x, hx⟩ : ∃ y, encO o p = y := ⟨_, rfl⟩
  obtain ⟨c, hc⟩ : ∃ y, chkO o p = y := ⟨_, rfl⟩
  obtain ⟨o2, ho2⟩ : ∃ y, decO s p = y := ⟨_, rfl⟩
  obtain ⟨l2, hl2⟩ : ∃ y, decOR s p = y := ⟨_, rfl⟩
  obtain ⟨f, hf⟩ : ∃ y, decOF s p = y := ⟨_, rfl⟩
  rw [hx, hc] at P1 DE
  rw [hx] at P2 XL
  rw [ho2, hl2, hf] at P4 ED
  clear hx hc ho2 hl2 hf
  obtain ⟨k, a, b, cs, df⟩ := o
  obtain ⟨ao, ca, rfl⟩ := h.shape
  dsimp only at h P1 P3 DE
  obtain ⟨n, hn⟩ : ∃ n, cs.length = n := ⟨_, rfl⟩
  rw [hn] at h P1 P3 ⊢
  have H := Lib.hid h
  have E0 := OpAt.new (.slice ao n ca) ⟨k, a, b, cs, df⟩ w
  dsimp only at E0
  obtain ⟨W, hW⟩ : ∃ W, w.alloc (.cells #[.int .i64 k, .int .i64 a, .int .i64 b, .slice ao n ca, .bool df] 24) = W := ⟨_, rfl⟩
  rw [hW] at E0
  have EW := Lib.hid E0
  obtain ⟨z0, z1, z2, z3, z4⟩ := five_cells E0.ev
  dsimp only at z0 z1 z2 z3 z4
  unfold opV at P1 P3 ⊢
  dsimp only at P1 P3 ⊢
  clear h E0
  have HN := Lib.hid hn
  clear hn
  by_cases hb1 : 100 < n
  · have e1 : decide ((100 : Int) < n) = true := decide_eq_true (by omega)
    clear hb1 P1 P2 P3 P4 ED DE
    go_enter Try.func5, Try.ntmps5
    go_wp2_with fail
    refine (send_any _).mono ?_
    rintro r w3 ⟨rfl, hB3⟩
    have B3 := Lib.hid (below_next EW.out.bel hB3)
    clear hB3
    go_wp2_with fail
    go_ret
    exact ⟨rfl, B3.out⟩
  have e1 : decide ((100 : Int) < n) = false := decide_eq_false (by omega)
  by_cases hb2 : 1000 < s.length
  · have e2 : decide ((1000 : Int) < s.length) = true := decide_eq_true (by omega)
    clear hb1 hb2 P1 P2 P3 P4 ED DE
    go_enter Try.func5, Try.ntmps5
    go_wp2_with fail
    refine (send_any _).mono ?_
    rintro r w3 ⟨rfl, hB3⟩
    have B3 := Lib.hid (below_next EW.out.bel hB3)
    clear hB3
    go_wp2_with fail
    go_ret
    exact ⟨rfl, B3.out⟩
  have e2 : decide ((1000 : Int) < s.length) = false := decide_eq_false (by omega)
  have LS := Lib.hid (show s.length ≤ 1000 by omega)
  have P2 := fun w => P2 w (by rw [List.length_append]; omega)
  have P3 := fun v' w h h' => P3 v' w h h' (by have := HN.out; omega)
  have LX : ¬ 9223372036854775807 < x.length + s.length := by omega
  clear hb1 hb2
  by_cases hc0 : c = 0
  · subst hc0
    obtain ⟨q1, q2, q3⟩ := DE.out rfl
    rw [q1, q2, q3] at P2
    unfold opV at P2
    dsimp only at P2
    clear q1 q2 q3 DE
    go_enter Try.func5, Try.ntmps5
    go_wp2_with fail
    refine ((P1 _ (H.out.below (Nat.le_refl _) EW.out.bel)).out).mono ?_
    rintro r w1 ⟨rfl, hB1⟩
    have E1 := Lib.hid (EW.out.below hB1)
    clear hB1 z0 z1 z2 z3 z4 hW
    obtain ⟨z0, z1, z2, z3, z4⟩ := five_cells E1.out.ev
    dsimp only at z0 z1 z2 z3 z4
    go_wp2_with fail
    refine ((P2 _).out).mono ?_
    rintro r w2 ⟨v2, rfl, hc2, hB2⟩
    obtain ⟨bo, cb, rfl⟩ := hc2.shape
    have E2 := Lib.hid (E1.out.below hB2)
    have C2 := Lib.hid hc2
    rw [HN.out] at C2 ⊢
    clear hB2 hc2 z0 z1 z2 z3 z4
    obtain ⟨z0, z1, z2, z3, z4⟩ := five_cells E2.out.ev
    dsimp only at z0 z1 z2 z3 z4
    have S2 := lt_of_heap E2.out.ev
    go_wp2_with fail
    refine ((P3 _ _ (C2.out.below (Nat.le_refl _) (below1 w2 (.cells #[.int .i64 k, .int .i64 a, .int .i64 b, .slice bo n cb, .bool df] 24))) ((H.out.below (Nat.le_refl _) E2.out.bel).below (Nat.le_refl _) (below1 w2 _))).out).mono ?_
    rintro r w3 ⟨rfl, hB3⟩
    have BZ := Lib.hid (below_next (E2.out.bel.alloc E2.out.bel.size _) hB3)
    clear hB3 z0 z1 z2 z3 z4 S2
    by_cases hf0 : f = 0
    · subst hf0
      obtain ⟨g1, g2⟩ := ED.out rfl
      have P5 := fun v w h => Lib.hid (dencode_any o2 v p w h)
      obtain ⟨b2, hb2⟩ : ∃ b2, encO o2 p = b2 := ⟨_, rfl⟩
      rw [g1, hb2] at P5
      rw [hb2] at g2
      have G2 : (b2 ++ l2 == s) = true := by rw [g2]; simp
      have G3 : (b2 ++ l2 != s) = false := by rw [g2]; simp
      have LEN : ¬ 9223372036854775807 < b2.length + l2.length := by
        have := congrArg List.length g2
        rw [List.length_append] at this
        have := LS.out
        omega
      obtain ⟨k2, a2, b3, cs2, df2⟩ := o2
      unfold opV at P4 P5
      dsimp only at P4 P5
      clear g1 g2 hb2 ED
      go_wp2_with fail
      refine ((P4 _).out).mono ?_
      rintro r w5 ⟨v5, rfl, hc5, hB5⟩
      obtain ⟨bo, cb, rfl⟩ := hc5.shape
      have B5 := Lib.hid (below_next BZ.out hB5)
      have C5 := Lib.hid hc5
      obtain ⟨n5, hn5⟩ : ∃ n, cs2.length = n := ⟨_, rfl⟩
      rw [hn5] at C5 ⊢
      clear hB5 hc5
      go_wp2_with fail
      refine ((P5 _ _ (C5.out.below (Nat.le_refl _) (below1 w5 (.cells #[.int .i64 k2, .int .i64 a2, .int .i64 b3, .slice bo n5 cb, .bool df2] 24)))).out).mono ?_
      rintro r w6 ⟨rfl, hB6⟩
      have B6 := Lib.hid (below_next (B5.out.alloc B5.out.size _) hB6)
      clear hB6
      go_wp2_with fail
      refine (send_any _).mono ?_
      rintro r w7 ⟨rfl, hB7⟩
      have B7 := Lib.hid (below_next B6.out hB7)
      clear hB7
      go_wp2_with fail
      go_ret
      exact ⟨rfl, B7.out⟩
    · have hf1 : (f == 0) = false := by simpa using hf0
      obtain ⟨k2, a2, b3, cs2, df2⟩ := o2
      unfold opV at P4
      dsimp only at P4
      clear hf0 ED
      go_wp2_with fail
      refine ((P4 _).out).mono ?_
      rintro r w5 ⟨v5, rfl, hc5, hB5⟩
      obtain ⟨bo, cb, rfl⟩ := hc5.shape
      have B5 := Lib.hid (below_next BZ.out hB5)
      clear hB5 hc5
      go_wp2_with fail
      refine (send_any _).mono ?_
      rintro r w7 ⟨rfl, hB7⟩
      have B7 := Lib.hid (below_next (B5.out.alloc B5.out.size _) hB7)
      clear hB7
      go_wp2_with fail
      go_ret
      exact ⟨rfl, B7.out⟩
  · have hc1 : (c == 0) = false := by simpa using hc0
    clear hc0 DE P2 P3
    go_enter Try.func5, Try.ntmps5
    go_wp2_with fail
    refine ((P1 _ (H.out.below (Nat.le_refl _) EW.out.bel)).out).mono ?_
    rintro r w1 ⟨rfl, hB1⟩
    have BZ := Lib.hid (EW.out.below hB1).bel
    clear hB1 z0 z1 z2 z3 z4 hW
    by_cases hf0 : f = 0
    · subst hf0
      obtain ⟨g1, g2⟩ := ED.out rfl
      have P5 := fun v w h => Lib.hid (dencode_any o2 v p w h)
      obtain ⟨b2, hb2⟩ : ∃ b2, encO o2 p = b2 := ⟨_, rfl⟩
      rw [g1, hb2] at P5
      rw [hb2] at g2
      have G2 : (b2 ++ l2 == s) = true := by rw [g2]; simp
      have G3 : (b2 ++ l2 != s) = false := by rw [g2]; simp
      have LEN : ¬ 9223372036854775807 < b2.length + l2.length := by
        have := congrArg List.length g2
        rw [List.length_append] at this
        have := LS.out
        omega
      obtain ⟨k2, a2, b3, cs2, df2⟩ := o2
      unfold opV at P4 P5
      dsimp only at P4 P5
      clear g1 g2 hb2 ED
      go_wp2_with fail
      refine ((P4 _).out).mono ?_
      rintro r w5 ⟨v5, rfl, hc5, hB5⟩
      obtain ⟨bo, cb, rfl⟩ := hc5.shape
      have B5 := Lib.hid (below_next BZ.out hB5)
      have C5 := Lib.hid hc5
      obtain ⟨n5, hn5⟩ : ∃ n, cs2.length = n := ⟨_, rfl⟩
      rw [hn5] at C5 ⊢
      clear hB5 hc5
      go_wp2_with fail
      refine ((P5 _ _ (C5.out.below (Nat.le_refl _) (below1 w5 (.cells #[.int .i64 k2, .int .i64 a2, .int .i64 b3, .slice bo n5 cb, .bool df2] 24)))).out).mono ?_
      rintro r w6 ⟨rfl, hB6⟩
      have B6 := Lib.hid (below_next (B5.out.alloc B5.out.size _) hB6)
      clear hB6
      go_wp2_with fail
      refine (send_any _).mono ?_
      rintro r w7 ⟨rfl, hB7⟩
      have B7 := Lib.hid (below_next B6.out hB7)
      clear hB7
      go_wp2_with fail
      go_ret
      exact ⟨rfl, B7.out⟩
    · have hf1 : (f == 0) = false := by simpa using hf0
      obtain ⟨k2, a2, b3, cs2, df2⟩ := o2
      unfold opV at P4
      dsimp only at P4
      clear hf0 ED
      go_wp2_with fail
      refine ((P4 _).out).mono ?_
      rintro r w5 ⟨v5, rfl, hc5, hB5⟩
      obtain ⟨bo, cb, rfl⟩ := hc5.shape
      have B5 := Lib.hid (below_next BZ.out hB5)
      clear hB5 hc5
      go_wp2_with fail
      refine (send_any _).mono ?_
      rintro r w7 ⟨rfl, hB7⟩
      have B7 := Lib.hid (below_next (B5.out.alloc B5.out.size _) hB7)
      clear hB7
      go_wp2_with fail
      go_ret
      exact ⟨rfl, B7.out⟩
end Go.Proofs.Ytobgdchlblhaiaa

