
/-
  Package entry: odd, fields, Check.
-/
import Derived.Test.YtmmkdbcgkafolaaDoorEntA
import Derived.Deep.RegionHeld3
import Derived.Deep.DrawnRows
import Derived.Deep.DeepCutAuto
namespace Go.Proofs.YtmmkdbcgkafolaaDoor
open Go.RowKit
set_option linter.unusedVariables false
set_option linter.unusedSimpArgs false
set_option maxRecDepth 100000
attribute [local go_sem ↓] Go.wp_at_zero Go.wp_at_succ

theorem below1 (w : World) (a : Obj) : Below w.heap.size w (w.alloc a) := (Below.refl _ _).alloc (Nat.le_refl _) _
theorem ret_bool {x y : Bool} (h : x = y) : Ending.returned (.bool x) = .returned (.bool y) := by rw [h]

theorem odd_any (e : Ev) (w : World) : Calls Tryd.prog 27 #[evV e] w fun r w' => r = .returned (.bool (oddB e)) ∧ Below w.heap.size w w' := by
  obtain ⟨k, g, ch, cs, va, ma, sd, ok⟩ := e
  unfold evV
  dsimp only
  by_cases h3 : k = 3
  · subst h3
    cases sd
    all_goals
      go_enter Tryd.func27, Tryd.ntmps27
      go_wp2_with fail
      go_ret
      exact ⟨ret_bool (by simp [oddB]), below1 _ _⟩
  by_cases h4 : k = 4
  · subst h4
    cases ok
    all_goals
      go_enter Tryd.func27, Tryd.ntmps27
      go_wp2_with fail
      all_goals (go_ret; exact ⟨ret_bool (by simp_all [oddB] <;> omega), below1 _ _⟩)
  by_cases h6 : k = 6
  · subst h6
    cases sd
    all_goals
      go_enter Tryd.func27, Tryd.ntmps27
      go_wp2_with fail
      all_goals (go_ret; exact ⟨ret_bool (by simp_all [oddB] <;> omega), below1 _ _⟩)
  by_cases h7 : k = 7
  · subst h7
    cases sd <;> cases ok
    all_goals
      go_enter Tryd.func27, Tryd.ntmps27
      go_wp2_with fail
      all_goals (go_ret; exact ⟨ret_bool (by simp_all [oddB] <;> omega), below1 _ _⟩)
  have k3 : (k == 3) = false := by simpa using h3
  have k4 : (k == 4) = false := by simpa using h4
  have k6 : (k == 6) = false := by simpa using h6
  have k7 : (k == 7) = false := by simpa using h7
  have E := Lib.hid (show oddB ⟨k, g, ch, cs, va, ma, sd, ok⟩ = false by simp [oddB, h3, h4, h6, h7])
  clear h3 h4 h6 h7
  go_enter Tryd.func27, Tryd.ntmps27
  go_wp2_with fail
  go_ret
  exact ⟨ret_bool E.out.symm, below1 _ _⟩

theorem fields_any (b : Nat) (w : World) :
    Calls Tryd.prog 23 #[.pointer (some ⟨b, 0, none⟩)] w fun r w' => r = .returned (.agg #[.pointer (some ⟨b, 1, none⟩), .pointer (some ⟨b, 2, none⟩), .pointer (some ⟨b, 3, none⟩), .pointer (some ⟨b, 4, none⟩), .pointer (some ⟨b, 5, none⟩)]) ∧ Below w.heap.size w w' := by
  go_enter Tryd.func23, Tryd.ntmps23
  go_wp2_with fail
  go_region_held3 (fun w' => Below w.heap.size w w') (first | (simp [*]; done) | exact (below1 _ _).drew | (first | assumption | exact (below1 _ _)) | exact ((below1 _ _).drew.setCell (by simp) _)) (fail)
  go_wp2_with fail
  exact bodyPost_ret (v := .agg #[.pointer (some ⟨b, 1, none⟩), .pointer (some ⟨b, 2, none⟩), .pointer (some ⟨b, 3, none⟩), .pointer (some ⟨b, 4, none⟩), .pointer (some ⟨b, 5, none⟩)]) (by simp [results, Tryd.results23, go_sem]) rfl ⟨rfl, (below1 _ _).drew⟩

@[local go_sem ↓] theorem run_idx5_0 (w : World) (p0 p1 p2 p3 p4 : Value) : (Instr.index 54 (.agg #[p0, p1, p2, p3, p4]) (.int .i64 0)).run Tryd.prog w = .ok p0 w := by kernel_rfl
@[local go_sem ↓] theorem run_idx5_1 (w : World) (p0 p1 p2 p3 p4 : Value) : (Instr.index 54 (.agg #[p0, p1, p2, p3, p4]) (.int .i64 1)).run Tryd.prog w = .ok p1 w := by kernel_rfl
@[local go_sem ↓] theorem run_idx5_2 (w : World) (p0 p1 p2 p3 p4 : Value) : (Instr.index 54 (.agg #[p0, p1, p2, p3, p4]) (.int .i64 2)).run Tryd.prog w = .ok p2 w := by kernel_rfl
@[local go_sem ↓] theorem run_idx5_3 (w : World) (p0 p1 p2 p3 p4 : Value) : (Instr.index 54 (.agg #[p0, p1, p2, p3, p4]) (.int .i64 3)).run Tryd.prog w = .ok p3 w := by kernel_rfl
@[local go_sem ↓] theorem run_idx5_4 (w : World) (p0 p1 p2 p3 p4 : Value) : (Instr.index 54 (.agg #[p0, p1, p2, p3, p4]) (.int .i64 4)).run Tryd.prog w = .ok p4 w := by kernel_rfl
end Go.Proofs.YtmmkdbcgkafolaaDoor

