
/-
  The reference's Encode.
-/
import Derived.Test.YtmmkdbcgkafolaaDoorEntE
import Derived.Test.YtmmkdbcgkafolaaDoorEntR6
import Derived.Deep.RegionHeld3
namespace Go.Proofs.YtmmkdbcgkafolaaDoor
open Go.RowKit
set_option linter.unusedVariables false
set_option linter.unusedSimpArgs false
set_option maxRecDepth 100000

theorem rput_any (n : Int) (w : World) : Calls Tryd.prog 24 #[.int .i64 n] w fun r w' => r = .returned (bs (putS n)) ∧ Below w.heap.size w w' := by
  go_enter Tryd.func24, Tryd.ntmps24
  go_wp2_with fail
  refine (ref_put_any n _).mono ?_
  rintro r w1 ⟨rfl, hB1⟩
  have B := Lib.hid hB1
  clear hB1
  go_wp2_with fail
  go_ret
  exact ⟨rfl, B.out⟩
theorem below_nextD {A W w' : World} (h : Below A.heap.size A W) (hb : Below W.drew.heap.size W.drew w') : Below A.heap.size A w' := below_next h.drew hb

set_option maxHeartbeats 4000000 in
theorem rencode_any (e : Ev) (w : World) : Calls Tryd.prog 10 #[evV e] w fun r w' => r = .returned (.tuple #[bs (encS e), .int .i64 (chk e)]) ∧ Below w.heap.size w w' := by
  have CK := Lib.hid (rcheck_any e)
  have E0 : EvAt e w.heap.size w (w.alloc (.cells #[.int .i64 e.kind, .int .i64 e.g, .int .i64 e.ch, .int .i64 e.cs, .int .i64 e.va, .int .i64 e.ma, .bool e.sd, .bool e.ok] 23)) := ⟨heap_alloc_new _ _, below1 _ _⟩
  obtain ⟨c, hc⟩ : ∃ c, chk e = c := ⟨_, rfl⟩
  have HC := Lib.hid hc
  obtain ⟨W, hW⟩ : ∃ W, w.alloc (.cells #[.int .i64 e.kind, .int .i64 e.g, .int .i64 e.ch, .int .i64 e.cs, .int .i64 e.va, .int .i64 e.ma, .bool e.sd, .bool e.ok] 23) = W := ⟨_, rfl⟩
  rw [hW] at E0
  have EW := Lib.hid E0
  obtain ⟨z0, z1, z2, z3, z4, z5, z6, z7⟩ := eight_cells E0.ev
  unfold evV at CK ⊢
  rw [hc] at CK ⊢
  clear hc E0
  by_cases h0 : c = 0
  · subst h0
    have BD := chk_bd HC.out
    obtain ⟨k, g, ch, cs, va, ma, sd, ok⟩ := e
    dsimp only at *
    obtain ⟨⟨a1, b1⟩, ⟨a2, b2⟩, ⟨a3, b3⟩, ⟨a4, b4⟩, ⟨a5, b5⟩⟩ := BD
    obtain ⟨m, hm⟩ : ∃ m, marksI ⟨k, g, ch, cs, va, ma, sd, ok⟩ = m := ⟨_, rfl⟩
    have l0 := putS_len k
    have l1 := putS_len (g + 1)
    have l2 := putS_len (ch + 1)
    have l3 := putS_len (cs + 1)
    have l4 := putS_len (va + 1)
    have l5 := putS_len (ma + 1)
    have l6 := putS_len m
    have P0 := fun w => Lib.hid (rput_any k w)
    have P1 := fun w => Lib.hid (rput_any (g + 1) w)
    have wr1 : IntKind.i64.wrap (g + 1) = g + 1 := IntWalk.i64_in (g + 1) (by omega)
    have P2 := fun w => Lib.hid (rput_any (ch + 1) w)
    have wr2 : IntKind.i64.wrap (ch + 1) = ch + 1 := IntWalk.i64_in (ch + 1) (by omega)
    have P3 := fun w => Lib.hid (rput_any (cs + 1) w)
    have wr3 : IntKind.i64.wrap (cs + 1) = cs + 1 := IntWalk.i64_in (cs + 1) (by omega)
    have P4 := fun w => Lib.hid (rput_any (va + 1) w)
    have wr4 : IntKind.i64.wrap (va + 1) = va + 1 := IntWalk.i64_in (va + 1) (by omega)
    have P5 := fun w => Lib.hid (rput_any (ma + 1) w)
    have wr5 : IntKind.i64.wrap (ma + 1) = ma + 1 := IntWalk.i64_in (ma + 1) (by omega)
    have P6 := fun w => Lib.hid (rput_any m w)
    have EN : encS ⟨k, g, ch, cs, va, ma, sd, ok⟩ = putS k ++ putS (g + 1) ++ putS (ch + 1) ++ putS (cs + 1) ++ putS (va + 1) ++ putS (ma + 1) ++ putS m := by
      rw [show encS ⟨k, g, ch, cs, va, ma, sd, ok⟩ = accS ⟨k, g, ch, cs, va, ma, sd, ok⟩ 5 ++ putS (marksI ⟨k, g, ch, cs, va, ma, sd, ok⟩) from if_pos HC.out, hm]; rfl
    rw [EN]
    obtain ⟨y0, e0⟩ : ∃ y, putS k = y := ⟨_, rfl⟩
    obtain ⟨y1, e1⟩ : ∃ y, putS (g + 1) = y := ⟨_, rfl⟩
    obtain ⟨y2, e2⟩ : ∃ y, putS (ch + 1) = y := ⟨_, rfl⟩
    obtain ⟨y3, e3⟩ : ∃ y, putS (cs + 1) = y := ⟨_, rfl⟩
    obtain ⟨y4, e4⟩ : ∃ y, putS (va + 1) = y := ⟨_, rfl⟩
    obtain ⟨y5, e5⟩ : ∃ y, putS (ma + 1) = y := ⟨_, rfl⟩
    obtain ⟨y6, e6⟩ : ∃ y, putS m = y := ⟨_, rfl⟩
    rw [e0] at l0 P0 ⊢
    rw [e1] at l1 P1 ⊢
    rw [e2] at l2 P2 ⊢
    rw [e3] at l3 P3 ⊢
    rw [e4] at l4 P4 ⊢
    rw [e5] at l5 P5 ⊢
    rw [e6] at l6 P6 ⊢
    have hm2 : m = (if sd then 1 else 0) + if ok then 2 else 0 := by rw [← hm]; rfl
    clear e0 e1 e2 e3 e4 e5 e6 EN hm HC
    have k1 : ¬ 9223372036854775807 < y0.length + y1.length := by omega
    have k2 : ¬ 9223372036854775807 < y0.length + y1.length + y2.length := by omega
    have k3 : ¬ 9223372036854775807 < y0.length + (y1.length + y2.length) + y3.length := by omega
    have k4 : ¬ 9223372036854775807 < y0.length + (y1.length + (y2.length + y3.length)) + y4.length := by omega
    have k5 : ¬ 9223372036854775807 < y0.length + (y1.length + (y2.length + (y3.length + y4.length))) + y5.length := by omega
    have k6 : ¬ 9223372036854775807 < y0.length + (y1.length + (y2.length + (y3.length + (y4.length + y5.length)))) + y6.length := by omega
    cases sd <;> cases ok
    all_goals
      simp only [Bool.false_eq_true, if_false, if_true, Int.reduceAdd] at hm2
      have hm3 : m = _ := hm2
      subst hm3
      clear hm2
      go_enter Tryd.func10, Tryd.ntmps10
      go_wp2_with fail
      refine (CK.out W).mono ?_
      rintro r w1 ⟨rfl, hB1⟩
      have E1 := Lib.hid (EW.out.below hB1)
      clear hB1 z0 z1 z2 z3 z4 z5 z6 z7 hW
      obtain ⟨z0, z1, z2, z3, z4, z5, z6, z7⟩ := eight_cells E1.out.ev
      go_wp2_with fail
      go_region_held3 (fun w' => w'.cell? ⟨w.heap.size, 0, none⟩ = some (.int .i64 k) ∧ w'.cell? ⟨w.heap.size, 1, none⟩ = some (.int .i64 g) ∧ w'.cell? ⟨w.heap.size, 2, none⟩ = some (.int .i64 ch) ∧ w'.cell? ⟨w.heap.size, 3, none⟩ = some (.int .i64 cs) ∧ w'.cell? ⟨w.heap.size, 4, none⟩ = some (.int .i64 va) ∧ w'.cell? ⟨w.heap.size, 5, none⟩ = some (.int .i64 ma)) (go_keep)
        (first
          | (go_at_call 24; (with_reducible refine ((P0 _).out).mono ?_); rintro r w6 ⟨rfl, hB6⟩; have E7 := Lib.hid (E1.out.below (((Below.refl _ _).drew).trans (hB6.mono (Nat.le_refl _)))); clear hB6 z0 z1 z2 z3 z4 z5 z6 z7; obtain ⟨z0, z1, z2, z3, z4, z5, z6, z7⟩ := eight_cells E7.out.ev)
          | (go_at_call 24; (with_reducible refine ((P1 _).out).mono ?_); rintro r w6 ⟨rfl, hB6⟩; have E7 := Lib.hid (E7.out.below hB6); clear hB6 z0 z1 z2 z3 z4 z5 z6 z7; obtain ⟨z0, z1, z2, z3, z4, z5, z6, z7⟩ := eight_cells E7.out.ev)
          | (go_at_call 24; (with_reducible refine ((P2 _).out).mono ?_); rintro r w6 ⟨rfl, hB6⟩; have E7 := Lib.hid (E7.out.below hB6); clear hB6 z0 z1 z2 z3 z4 z5 z6 z7; obtain ⟨z0, z1, z2, z3, z4, z5, z6, z7⟩ := eight_cells E7.out.ev)
          | (go_at_call 24; (with_reducible refine ((P3 _).out).mono ?_); rintro r w6 ⟨rfl, hB6⟩; have E7 := Lib.hid (E7.out.below hB6); clear hB6 z0 z1 z2 z3 z4 z5 z6 z7; obtain ⟨z0, z1, z2, z3, z4, z5, z6, z7⟩ := eight_cells E7.out.ev)
          | (go_at_call 24; (with_reducible refine ((P4 _).out).mono ?_); rintro r w6 ⟨rfl, hB6⟩; have E7 := Lib.hid (E7.out.below hB6); clear hB6 z0 z1 z2 z3 z4 z5 z6 z7; obtain ⟨z0, z1, z2, z3, z4, z5, z6, z7⟩ := eight_cells E7.out.ev)
          | (go_at_call 24; (with_reducible refine ((P5 _).out).mono ?_); rintro r w6 ⟨rfl, hB6⟩; have E7 := Lib.hid (E7.out.below hB6); clear hB6 z0 z1 z2 z3 z4 z5 z6 z7; obtain ⟨z0, z1, z2, z3, z4, z5, z6, z7⟩ := eight_cells E7.out.ev)
          | (go_at_call 24; (with_reducible refine ((P6 _).out).mono ?_); rintro r w6 ⟨rfl, hB6⟩; have E7 := Lib.hid (E7.out.below hB6); clear hB6 z0 z1 z2 z3 z4 z5 z6 z7; obtain ⟨z0, z1, z2, z3, z4, z5, z6, z7⟩ := eight_cells E7.out.ev))
      go_wp2_with fail
      go_ret2
      exact ⟨by simp only [List.append_assoc]; rfl, E7.out.bel⟩
  · have d : (c == 0) = false := by simpa using h0
    have EN := Lib.hid (show encS e = [] from if_neg (by rw [HC.out]; exact h0))
    rw [EN.out]
    clear h0
    go_enter Tryd.func10, Tryd.ntmps10
    go_wp2_with fail
    refine (CK.out W).mono ?_
    rintro r w1 ⟨rfl, hB1⟩
    have E1 := Lib.hid (EW.out.below hB1)
    clear hB1
    go_wp2_with fail
    go_ret2
    exact ⟨rfl, E1.out.bel⟩
end Go.Proofs.YtmmkdbcgkafolaaDoor

