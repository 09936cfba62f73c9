
/-
  staitheref12: within, Check.
-/
import Derived.Test.YtmmkdbcgkafolaaDoorEntR0
import Derived.Test.YtmmkdbcgkafolaaDoorEntP
import Derived.Deep.DeepCutAuto
import Derived.Deep.CutBlock
import Derived.Deep.Light
namespace Go.Proofs.YtmmkdbcgkafolaaDoor
open Go.RowKit
set_option linter.unusedVariables false
set_option linter.unusedSimpArgs false
set_option maxRecDepth 100000

set_option maxHeartbeats 8000000 in
theorem rcheck_1 (e : Ev) (w : World) (hk : e.kind = 1) : Calls Tryd.prog 12 #[evV e] w fun r w' => r = .returned (.int .i64 (chk e)) ∧ Below w.heap.size w w' := by
  have E := Lib.hid (chk_good e (by omega) (by omega))
  rw [E.out]
  obtain ⟨b, hb⟩ : ∃ b, rokB e = b := ⟨_, rfl⟩
  rw [hb]
  have HB := Lib.hid hb
  obtain ⟨res, hres⟩ : ∃ x : Int, (if b then 0 else 4) = x := ⟨_, rfl⟩
  rw [hres]
  have RS := Lib.hid hres
  clear hres
  obtain ⟨k, g, ch, cs, va, ma, sd, ok⟩ := e
  unfold evV
  dsimp only at hk ⊢
  subst hk
  obtain ⟨c3, hc3⟩ : ∃ c, (ch == -1) = c := ⟨_, rfl⟩
  obtain ⟨c4, hc4⟩ : ∃ c, decide (0 ≤ ch ∧ ch ≤ 511) = c := ⟨_, rfl⟩
  obtain ⟨c5, hc5⟩ : ∃ c, (cs == -1) = c := ⟨_, rfl⟩
  obtain ⟨c6, hc6⟩ : ∃ c, decide (-1 ≤ cs ∧ cs ≤ 3) = c := ⟨_, rfl⟩
  obtain ⟨c7, hc7⟩ : ∃ c, (ma == -1) = c := ⟨_, rfl⟩
  obtain ⟨c8, hc8⟩ : ∃ c, decide (0 ≤ ma ∧ ma ≤ 511) = c := ⟨_, rfl⟩
  obtain ⟨c9, hc9⟩ : ∃ c, decide (0 ≤ va ∧ va ≤ 99) = c := ⟨_, rfl⟩
  obtain ⟨z, hz⟩ : ∃ c, (va == 0) = c := ⟨_, rfl⟩
  obtain ⟨u, hu⟩ : ∃ c, (va == -1) = c := ⟨_, rfl⟩
  obtain ⟨w7, hw7⟩ : ∃ c, decide (0 ≤ va ∧ va ≤ 7) = c := ⟨_, rfl⟩
  obtain ⟨w4, hw4⟩ : ∃ c, decide (0 ≤ va ∧ va ≤ 4) = c := ⟨_, rfl⟩
  obtain ⟨k4, hk4⟩ : ∃ c, decide (0 ≤ cs ∧ cs ≤ 4) = c := ⟨_, rfl⟩
  have B2 := Lib.hid (show (rok 1 ⟨c3, c4, c5, c6, c7, c8, c9, sd, ok, z, u, w7, w4, k4⟩ && (if (1 : Int) = 13 then g == -1 else decide (0 ≤ g ∧ g ≤ 511))) = b by
    rw [← hb]
    unfold rokB lkOf
    dsimp only
    rw [hc3, hc4, hc5, hc6, hc7, hc8, hc9, hz, hu, hw7, hw4, hk4])
  obtain ⟨rk, hrk⟩ : ∃ rk, rok 1 ⟨c3, c4, c5, c6, c7, c8, c9, sd, ok, z, u, w7, w4, k4⟩ = rk := ⟨_, rfl⟩
  rw [hrk] at B2
  have RK := Lib.hid hrk
  clear hrk
  have X4 := Lib.hid hc4
  have X6 := Lib.hid hc6
  have X8 := Lib.hid hc8
  have X9 := Lib.hid hc9
  have X7 := Lib.hid hw7
  have XF := Lib.hid hw4
  have XK := Lib.hid hk4
  obtain ⟨W, hW⟩ : ∃ W, w.alloc (.cells #[.int .i64 1, .int .i64 g, .int .i64 ch, .int .i64 cs, .int .i64 va, .int .i64 ma, .bool sd, .bool ok] 23) = W := ⟨_, rfl⟩
  have BW : Below w.heap.size w W := by rw [← hW]; exact below1 _ _
  have hev : W.heap[w.heap.size]? = some (Obj.cells #[.int .i64 1, .int .i64 g, .int .i64 ch, .int .i64 cs, .int .i64 va, .int .i64 ma, .bool sd, .bool ok] 23 (0, 0)) := by rw [← hW]; exact heap_alloc_new _ _
  have z0 : W.cell? ⟨w.heap.size, 0, none⟩ = some (.int .i64 1) := by simp only [World.cell?, hev]; rfl
  have z1 : W.cell? ⟨w.heap.size, 1, none⟩ = some (.int .i64 g) := by simp only [World.cell?, hev]; rfl
  have z2 : W.cell? ⟨w.heap.size, 2, none⟩ = some (.int .i64 ch) := by simp only [World.cell?, hev]; rfl
  have z3 : W.cell? ⟨w.heap.size, 3, none⟩ = some (.int .i64 cs) := by simp only [World.cell?, hev]; rfl
  have z4 : W.cell? ⟨w.heap.size, 4, none⟩ = some (.int .i64 va) := by simp only [World.cell?, hev]; rfl
  have z5 : W.cell? ⟨w.heap.size, 5, none⟩ = some (.int .i64 ma) := by simp only [World.cell?, hev]; rfl
  have z6 : W.cell? ⟨w.heap.size, 6, none⟩ = some (.bool sd) := by simp only [World.cell?, hev]; rfl
  have z7 : W.cell? ⟨w.heap.size, 7, none⟩ = some (.bool ok) := by simp only [World.cell?, hev]; rfl
  have WB := Lib.hid BW
  clear hb hc4 hc6 hc8 hc9 hw7 hw4 hk4 hev BW
  go_enter Tryd.func12, Tryd.ntmps12
  go_wp2_with fail
  (with_reducible refine (within_any ch 0 511 _ c4 X4.out).mono ?_); rintro r w' ⟨rfl, rfl⟩
  go_wp2_with fail
  (with_reducible refine (within_any cs (-1) 3 _ c6 X6.out).mono ?_); rintro r w' ⟨rfl, rfl⟩
  go_wp2_with fail
  (with_reducible refine (within_any ma 0 511 _ c8 X8.out).mono ?_); rintro r w' ⟨rfl, rfl⟩
  go_wp2_with fail
  (with_reducible refine (within_any va 0 99 _ c9 X9.out).mono ?_); rintro r w' ⟨rfl, rfl⟩
  obtain ⟨q, hq⟩ : ∃ q, decide (0 ≤ g ∧ g ≤ 511) = q := ⟨_, rfl⟩
  have B3 := Lib.hid (show (rk && q) = b by rw [← hq, ← B2.out]; rfl)
  have Q4 := Lib.hid hq
  clear hq
  clear X4 X6 X8 X9 hW
  cases sd <;> cases ok
  all_goals
    go_wp2_with (first
          | (go_at_call 28; (with_reducible refine (within_any va 0 7 _ w7 X7.out).mono ?_); rintro r w' ⟨rfl, rfl⟩)
          | (go_at_call 28; (with_reducible refine (within_any va 0 4 _ w4 XF.out).mono ?_); rintro r w' ⟨rfl, rfl⟩)
          | (go_at_call 28; (with_reducible refine (within_any cs 0 4 _ k4 XK.out).mono ?_); rintro r w' ⟨rfl, rfl⟩)
          | (go_at_call 28; (with_reducible refine (within_any g 0 511 _ q Q4.out).mono ?_); rintro r w' ⟨rfl, rfl⟩))
    all_goals
      go_ret
      refine ⟨?_, WB.out⟩
      rw [← RS.out, ← B3.out, ← RK.out]
      first
        | (refine congrArg (fun z : Int => Ending.returned (.int .i64 z)) (show (4 : Int) = _ from ?_); simp [rok, *] <;> (first | (simpa using ‹(!q) = true›) | (simpa using ‹(!q) = false›)))
        | (refine congrArg (fun z : Int => Ending.returned (.int .i64 z)) (show (0 : Int) = _ from ?_); simp [rok, *] <;> (simpa using ‹(!q) = false›))

set_option maxHeartbeats 8000000 in
theorem rcheck_2 (e : Ev) (w : World) (hk : e.kind = 2) : Calls Tryd.prog 12 #[evV e] w fun r w' => r = .returned (.int .i64 (chk e)) ∧ Below w.heap.size w w' := by
  have E := Lib.hid (chk_good e (by omega) (by omega))
  rw [E.out]
  obtain ⟨b, hb⟩ : ∃ b, rokB e = b := ⟨_, rfl⟩
  rw [hb]
  have HB := Lib.hid hb
  obtain ⟨res, hres⟩ : ∃ x : Int, (if b then 0 else 4) = x := ⟨_, rfl⟩
  rw [hres]
  have RS := Lib.hid hres
  clear hres
  obtain ⟨k, g, ch, cs, va, ma, sd, ok⟩ := e
  unfold evV
  dsimp only at hk ⊢
  subst hk
  obtain ⟨c3, hc3⟩ : ∃ c, (ch == -1) = c := ⟨_, rfl⟩
  obtain ⟨c4, hc4⟩ : ∃ c, decide (0 ≤ ch ∧ ch ≤ 511) = c := ⟨_, rfl⟩
  obtain ⟨c5, hc5⟩ : ∃ c, (cs == -1) = c := ⟨_, rfl⟩
  obtain ⟨c6, hc6⟩ : ∃ c, decide (-1 ≤ cs ∧ cs ≤ 3) = c := ⟨_, rfl⟩
  obtain ⟨c7, hc7⟩ : ∃ c, (ma == -1) = c := ⟨_, rfl⟩
  obtain ⟨c8, hc8⟩ : ∃ c, decide (0 ≤ ma ∧ ma ≤ 511) = c := ⟨_, rfl⟩
  obtain ⟨c9, hc9⟩ : ∃ c, decide (0 ≤ va ∧ va ≤ 99) = c := ⟨_, rfl⟩
  obtain ⟨z, hz⟩ : ∃ c, (va == 0) = c := ⟨_, rfl⟩
  obtain ⟨u, hu⟩ : ∃ c, (va == -1) = c := ⟨_, rfl⟩
  obtain ⟨w7, hw7⟩ : ∃ c, decide (0 ≤ va ∧ va ≤ 7) = c := ⟨_, rfl⟩
  obtain ⟨w4, hw4⟩ : ∃ c, decide (0 ≤ va ∧ va ≤ 4) = c := ⟨_, rfl⟩
  obtain ⟨k4, hk4⟩ : ∃ c, decide (0 ≤ cs ∧ cs ≤ 4) = c := ⟨_, rfl⟩
  have B2 := Lib.hid (show (rok 2 ⟨c3, c4, c5, c6, c7, c8, c9, sd, ok, z, u, w7, w4, k4⟩ && (if (2 : Int) = 13 then g == -1 else decide (0 ≤ g ∧ g ≤ 511))) = b by
    rw [← hb]
    unfold rokB lkOf
    dsimp only
    rw [hc3, hc4, hc5, hc6, hc7, hc8, hc9, hz, hu, hw7, hw4, hk4])
  obtain ⟨rk, hrk⟩ : ∃ rk, rok 2 ⟨c3, c4, c5, c6, c7, c8, c9, sd, ok, z, u, w7, w4, k4⟩ = rk := ⟨_, rfl⟩
  rw [hrk] at B2
  have RK := Lib.hid hrk
  clear hrk
  have X4 := Lib.hid hc4
  have X6 := Lib.hid hc6
  have X8 := Lib.hid hc8
  have X9 := Lib.hid hc9
  have X7 := Lib.hid hw7
  have XF := Lib.hid hw4
  have XK := Lib.hid hk4
  obtain ⟨W, hW⟩ : ∃ W, w.alloc (.cells #[.int .i64 2, .int .i64 g, .int .i64 ch, .int .i64 cs, .int .i64 va, .int .i64 ma, .bool sd, .bool ok] 23) = W := ⟨_, rfl⟩
  have BW : Below w.heap.size w W := by rw [← hW]; exact below1 _ _
  have hev : W.heap[w.heap.size]? = some (Obj.cells #[.int .i64 2, .int .i64 g, .int .i64 ch, .int .i64 cs, .int .i64 va, .int .i64 ma, .bool sd, .bool ok] 23 (0, 0)) := by rw [← hW]; exact heap_alloc_new _ _
  have z0 : W.cell? ⟨w.heap.size, 0, none⟩ = some (.int .i64 2) := by simp only [World.cell?, hev]; rfl
  have z1 : W.cell? ⟨w.heap.size, 1, none⟩ = some (.int .i64 g) := by simp only [World.cell?, hev]; rfl
  have z2 : W.cell? ⟨w.heap.size, 2, none⟩ = some (.int .i64 ch) := by simp only [World.cell?, hev]; rfl
  have z3 : W.cell? ⟨w.heap.size, 3, none⟩ = some (.int .i64 cs) := by simp only [World.cell?, hev]; rfl
  have z4 : W.cell? ⟨w.heap.size, 4, none⟩ = some (.int .i64 va) := by simp only [World.cell?, hev]; rfl
  have z5 : W.cell? ⟨w.heap.size, 5, none⟩ = some (.int .i64 ma) := by simp only [World.cell?, hev]; rfl
  have z6 : W.cell? ⟨w.heap.size, 6, none⟩ = some (.bool sd) := by simp only [World.cell?, hev]; rfl
  have z7 : W.cell? ⟨w.heap.size, 7, none⟩ = some (.bool ok) := by simp only [World.cell?, hev]; rfl
  have WB := Lib.hid BW
  clear hb hc4 hc6 hc8 hc9 hw7 hw4 hk4 hev BW
  go_enter Tryd.func12, Tryd.ntmps12
  go_wp2_with fail
  (with_reducible refine (within_any ch 0 511 _ c4 X4.out).mono ?_); rintro r w' ⟨rfl, rfl⟩
  go_wp2_with fail
  (with_reducible refine (within_any cs (-1) 3 _ c6 X6.out).mono ?_); rintro r w' ⟨rfl, rfl⟩
  go_wp2_with fail
  (with_reducible refine (within_any ma 0 511 _ c8 X8.out).mono ?_); rintro r w' ⟨rfl, rfl⟩
  go_wp2_with fail
  (with_reducible refine (within_any va 0 99 _ c9 X9.out).mono ?_); rintro r w' ⟨rfl, rfl⟩
  obtain ⟨q, hq⟩ : ∃ q, decide (0 ≤ g ∧ g ≤ 511) = q := ⟨_, rfl⟩
  have B3 := Lib.hid (show (rk && q) = b by rw [← hq, ← B2.out]; rfl)
  have Q4 := Lib.hid hq
  clear hq
  clear X4 X6 X8 X9 hW
  cases sd <;> cases ok
  all_goals
    go_wp2_with (first
          | (go_at_call 28; (with_reducible refine (within_any va 0 7 _ w7 X7.out).mono ?_); rintro r w' ⟨rfl, rfl⟩)
          | (go_at_call 28; (with_reducible refine (within_any va 0 4 _ w4 XF.out).mono ?_); rintro r w' ⟨rfl, rfl⟩)
          | (go_at_call 28; (with_reducible refine (within_any cs 0 4 _ k4 XK.out).mono ?_); rintro r w' ⟨rfl, rfl⟩)
          | (go_at_call 28; (with_reducible refine (within_any g 0 511 _ q Q4.out).mono ?_); rintro r w' ⟨rfl, rfl⟩))
    all_goals
      go_ret
      refine ⟨?_, WB.out⟩
      rw [← RS.out, ← B3.out, ← RK.out]
      first
        | (refine congrArg (fun z : Int => Ending.returned (.int .i64 z)) (show (4 : Int) = _ from ?_); simp [rok, *] <;> (first | (simpa using ‹(!q) = true›) | (simpa using ‹(!q) = false›)))
        | (refine congrArg (fun z : Int => Ending.returned (.int .i64 z)) (show (0 : Int) = _ from ?_); simp [rok, *] <;> (simpa using ‹(!q) = false›))

set_option maxHeartbeats 8000000 in
theorem rcheck_3 (e : Ev) (w : World) (hk : e.kind = 3) : Calls Tryd.prog 12 #[evV e] w fun r w' => r = .returned (.int .i64 (chk e)) ∧ Below w.heap.size w w' := by
  have E := Lib.hid (chk_good e (by omega) (by omega))
  rw [E.out]
  obtain ⟨b, hb⟩ : ∃ b, rokB e = b := ⟨_, rfl⟩
  rw [hb]
  have HB := Lib.hid hb
  obtain ⟨res, hres⟩ : ∃ x : Int, (if b then 0 else 4) = x := ⟨_, rfl⟩
  rw [hres]
  have RS := Lib.hid hres
  clear hres
  obtain ⟨k, g, ch, cs, va, ma, sd, ok⟩ := e
  unfold evV
  dsimp only at hk ⊢
  subst hk
  obtain ⟨c3, hc3⟩ : ∃ c, (ch == -1) = c := ⟨_, rfl⟩
  obtain ⟨c4, hc4⟩ : ∃ c, decide (0 ≤ ch ∧ ch ≤ 511) = c := ⟨_, rfl⟩
  obtain ⟨c5, hc5⟩ : ∃ c, (cs == -1) = c := ⟨_, rfl⟩
  obtain ⟨c6, hc6⟩ : ∃ c, decide (-1 ≤ cs ∧ cs ≤ 3) = c := ⟨_, rfl⟩
  obtain ⟨c7, hc7⟩ : ∃ c, (ma == -1) = c := ⟨_, rfl⟩
  obtain ⟨c8, hc8⟩ : ∃ c, decide (0 ≤ ma ∧ ma ≤ 511) = c := ⟨_, rfl⟩
  obtain ⟨c9, hc9⟩ : ∃ c, decide (0 ≤ va ∧ va ≤ 99) = c := ⟨_, rfl⟩
  obtain ⟨z, hz⟩ : ∃ c, (va == 0) = c := ⟨_, rfl⟩
  obtain ⟨u, hu⟩ : ∃ c, (va == -1) = c := ⟨_, rfl⟩
  obtain ⟨w7, hw7⟩ : ∃ c, decide (0 ≤ va ∧ va ≤ 7) = c := ⟨_, rfl⟩
  obtain ⟨w4, hw4⟩ : ∃ c, decide (0 ≤ va ∧ va ≤ 4) = c := ⟨_, rfl⟩
  obtain ⟨k4, hk4⟩ : ∃ c, decide (0 ≤ cs ∧ cs ≤ 4) = c := ⟨_, rfl⟩
  have B2 := Lib.hid (show (rok 3 ⟨c3, c4, c5, c6, c7, c8, c9, sd, ok, z, u, w7, w4, k4⟩ && (if (3 : Int) = 13 then g == -1 else decide (0 ≤ g ∧ g ≤ 511))) = b by
    rw [← hb]
    unfold rokB lkOf
    dsimp only
    rw [hc3, hc4, hc5, hc6, hc7, hc8, hc9, hz, hu, hw7, hw4, hk4])
  obtain ⟨rk, hrk⟩ : ∃ rk, rok 3 ⟨c3, c4, c5, c6, c7, c8, c9, sd, ok, z, u, w7, w4, k4⟩ = rk := ⟨_, rfl⟩
  rw [hrk] at B2
  have RK := Lib.hid hrk
  clear hrk
  have X4 := Lib.hid hc4
  have X6 := Lib.hid hc6
  have X8 := Lib.hid hc8
  have X9 := Lib.hid hc9
  have X7 := Lib.hid hw7
  have XF := Lib.hid hw4
  have XK := Lib.hid hk4
  obtain ⟨W, hW⟩ : ∃ W, w.alloc (.cells #[.int .i64 3, .int .i64 g, .int .i64 ch, .int .i64 cs, .int .i64 va, .int .i64 ma, .bool sd, .bool ok] 23) = W := ⟨_, rfl⟩
  have BW : Below w.heap.size w W := by rw [← hW]; exact below1 _ _
  have hev : W.heap[w.heap.size]? = some (Obj.cells #[.int .i64 3, .int .i64 g, .int .i64 ch, .int .i64 cs, .int .i64 va, .int .i64 ma, .bool sd, .bool ok] 23 (0, 0)) := by rw [← hW]; exact heap_alloc_new _ _
  have z0 : W.cell? ⟨w.heap.size, 0, none⟩ = some (.int .i64 3) := by simp only [World.cell?, hev]; rfl
  have z1 : W.cell? ⟨w.heap.size, 1, none⟩ = some (.int .i64 g) := by simp only [World.cell?, hev]; rfl
  have z2 : W.cell? ⟨w.heap.size, 2, none⟩ = some (.int .i64 ch) := by simp only [World.cell?, hev]; rfl
  have z3 : W.cell? ⟨w.heap.size, 3, none⟩ = some (.int .i64 cs) := by simp only [World.cell?, hev]; rfl
  have z4 : W.cell? ⟨w.heap.size, 4, none⟩ = some (.int .i64 va) := by simp only [World.cell?, hev]; rfl
  have z5 : W.cell? ⟨w.heap.size, 5, none⟩ = some (.int .i64 ma) := by simp only [World.cell?, hev]; rfl
  have z6 : W.cell? ⟨w.heap.size, 6, none⟩ = some (.bool sd) := by simp only [World.cell?, hev]; rfl
  have z7 : W.cell? ⟨w.heap.size, 7, none⟩ = some (.bool ok) := by simp only [World.cell?, hev]; rfl
  have WB := Lib.hid BW
  clear hb hc4 hc6 hc8 hc9 hw7 hw4 hk4 hev BW
  go_enter Tryd.func12, Tryd.ntmps12
  go_wp2_with fail
  (with_reducible refine (within_any ch 0 511 _ c4 X4.out).mono ?_); rintro r w' ⟨rfl, rfl⟩
  go_wp2_with fail
  (with_reducible refine (within_any cs (-1) 3 _ c6 X6.out).mono ?_); rintro r w' ⟨rfl, rfl⟩
  go_wp2_with fail
  (with_reducible refine (within_any ma 0 511 _ c8 X8.out).mono ?_); rintro r w' ⟨rfl, rfl⟩
  go_wp2_with fail
  (with_reducible refine (within_any va 0 99 _ c9 X9.out).mono ?_); rintro r w' ⟨rfl, rfl⟩
  obtain ⟨q, hq⟩ : ∃ q, decide (0 ≤ g ∧ g ≤ 511) = q := ⟨_, rfl⟩
  have B3 := Lib.hid (show (rk && q) = b by rw [← hq, ← B2.out]; rfl)
  have Q4 := Lib.hid hq
  clear hq
  clear X4 X6 X8 X9 hW
  cases sd <;> cases ok
  all_goals
    go_wp2_with (first
          | (go_at_call 28; (with_reducible refine (within_any va 0 7 _ w7 X7.out).mono ?_); rintro r w' ⟨rfl, rfl⟩)
          | (go_at_call 28; (with_reducible refine (within_any va 0 4 _ w4 XF.out).mono ?_); rintro r w' ⟨rfl, rfl⟩)
          | (go_at_call 28; (with_reducible refine (within_any cs 0 4 _ k4 XK.out).mono ?_); rintro r w' ⟨rfl, rfl⟩)
          | (go_at_call 28; (with_reducible refine (within_any g 0 511 _ q Q4.out).mono ?_); rintro r w' ⟨rfl, rfl⟩))
    all_goals
      go_ret
      refine ⟨?_, WB.out⟩
      rw [← RS.out, ← B3.out, ← RK.out]
      first
        | (refine congrArg (fun z : Int => Ending.returned (.int .i64 z)) (show (4 : Int) = _ from ?_); simp [rok, *] <;> (first | (simpa using ‹(!q) = true›) | (simpa using ‹(!q) = false›)))
        | (refine congrArg (fun z : Int => Ending.returned (.int .i64 z)) (show (0 : Int) = _ from ?_); simp [rok, *] <;> (simpa using ‹(!q) = false›))

end Go.Proofs.YtmmkdbcgkafolaaDoor

