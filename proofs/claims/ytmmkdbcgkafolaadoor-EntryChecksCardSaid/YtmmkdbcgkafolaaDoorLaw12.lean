
/-
  The laws EntryBare, EntryChecks.
-/
import Derived.Test.YtmmkdbcgkafolaaDoorEntH
import Derived.Test.YtmmkdbcgkafolaaDoorEntG
namespace Go.Proofs.YtmmkdbcgkafolaaDoor
open Go.RowKit
set_option linter.unusedVariables false
set_option linter.unusedSimpArgs false
set_option maxRecDepth 100000

theorem bare_law (k g : Int) (w : World) (hg : Glob w) : Calls Tryd.prog 5 #[.int .i64 k, .int .i64 g] w fun r w' => r = .returned (.bool true) ∧ Below w.heap.size w w' := by
  have G := Lib.hid hg
  clear hg
  go_enter Tryd.func5, Tryd.ntmps5
  go_wp2_with fail
  refine (bare_any k g _).mono ?_
  rintro r w1 ⟨rfl, hB1⟩
  have B1 := Lib.hid hB1
  clear hB1
  unfold evV bareEv
  dsimp only
  go_wp2_with fail
  refine (exit_any _ (G.out.below B1.out)).mono ?_
  rintro r w2 ⟨rfl, hB2⟩
  have B2 := Lib.hid (below_next B1.out hB2)
  clear hB2
  go_wp2_with fail
  go_ret
  exact ⟨rfl, B2.out⟩

theorem checks_law (e : Ev) (w : World) (hg : Glob w) : Calls Tryd.prog 3 #[evV e] w fun r w' => r = .returned (.bool true) ∧ Below w.heap.size w w' := by
  have G := Lib.hid hg
  have E0 : EvAt e w.heap.size w (w.alloc (.cells #[.int .i64 e.kind, .int .i64 e.g, .int .i64 e.ch, .int .i64 e.cs, .int .i64 e.va, .int .i64 e.ma, .bool e.sd, .bool e.ok] 23)) := ⟨heap_alloc_new _ _, below1 _ _⟩
  obtain ⟨W, hW⟩ : ∃ W, w.alloc (.cells #[.int .i64 e.kind, .int .i64 e.g, .int .i64 e.ch, .int .i64 e.cs, .int .i64 e.va, .int .i64 e.ma, .bool e.sd, .bool e.ok] 23) = W := ⟨_, rfl⟩
  rw [hW] at E0
  have EW := Lib.hid E0
  obtain ⟨z0, z1, z2, z3, z4, z5, z6, z7⟩ := eight_cells E0.ev
  have P1 := fun w h => Lib.hid (encode_any e w h)
  have P2 := fun w => Lib.hid (rencode_any e w)
  have P3 := fun w h => Lib.hid (check_any e w h)
  have P4 := fun w => Lib.hid (rcheck_any e w)
  obtain ⟨y, hy⟩ : ∃ y, encS e = y := ⟨_, rfl⟩
  obtain ⟨c, hc⟩ : ∃ c, chk e = c := ⟨_, rfl⟩
  unfold evV at P1 P2 P3 P4 ⊢
  rw [hy, hc] at P1 P2
  rw [hc] at P3 P4
  clear E0 hg hy hc
  go_enter Tryd.func3, Tryd.ntmps3
  go_wp2_with fail
  refine ((P1 W (G.out.below EW.out.bel)).out).mono ?_
  rintro r w1 ⟨rfl, hB1⟩
  have E1 := Lib.hid (EW.out.below hB1)
  clear hB1 z0 z1 z2 z3 z4 z5 z6 z7 hW
  obtain ⟨z0, z1, z2, z3, z4, z5, z6, z7⟩ := eight_cells E1.out.ev
  go_wp2_with fail
  refine ((P2 w1).out).mono ?_
  rintro r w2 ⟨rfl, hB2⟩
  have E2 := Lib.hid (E1.out.below hB2)
  clear hB2 z0 z1 z2 z3 z4 z5 z6 z7
  obtain ⟨z0, z1, z2, z3, z4, z5, z6, z7⟩ := eight_cells E2.out.ev
  go_wp2_with fail
  go_region_held3 (fun w' => w'.cell? ⟨w.heap.size, 0, none⟩ = some (.int .i64 e.kind) ∧ w'.cell? ⟨w.heap.size, 1, none⟩ = some (.int .i64 e.g) ∧ w'.cell? ⟨w.heap.size, 2, none⟩ = some (.int .i64 e.ch) ∧ w'.cell? ⟨w.heap.size, 3, none⟩ = some (.int .i64 e.cs) ∧ w'.cell? ⟨w.heap.size, 4, none⟩ = some (.int .i64 e.va) ∧ w'.cell? ⟨w.heap.size, 5, none⟩ = some (.int .i64 e.ma) ∧ w'.cell? ⟨w.heap.size, 6, none⟩ = some (.bool e.sd) ∧ w'.cell? ⟨w.heap.size, 7, none⟩ = some (.bool e.ok)) (go_keep)
    (first
      | (go_at_call 11; (with_reducible refine ((P3 _ (G.out.below E2.out.bel.drew)).out).mono ?_); rintro r w6 ⟨rfl, hB6⟩; have E7 := Lib.hid (E2.out.below (((Below.refl _ _).drew).trans (hB6.mono (Nat.le_refl _)))); clear hB6 z0 z1 z2 z3 z4 z5 z6 z7; obtain ⟨z0, z1, z2, z3, z4, z5, z6, z7⟩ := eight_cells E7.out.ev)
      | (go_at_call 12; (with_reducible refine ((P4 _).out).mono ?_); rintro r w6 ⟨rfl, hB6⟩; have E7 := Lib.hid (E7.out.below hB6); clear hB6 z0 z1 z2 z3 z4 z5 z6 z7; obtain ⟨z0, z1, z2, z3, z4, z5, z6, z7⟩ := eight_cells E7.out.ev)
      | (go_at_call 13; (with_reducible refine (exit_any _ (G.out.below E7.out.bel)).mono ?_); rintro r w6 ⟨rfl, hB6⟩; have E7 := Lib.hid (E7.out.below hB6); clear hB6 z0 z1 z2 z3 z4 z5 z6 z7; obtain ⟨z0, z1, z2, z3, z4, z5, z6, z7⟩ := eight_cells E7.out.ev))
  go_wp2_with fail
  go_ret
  exact ⟨rfl, E7.out.bel⟩
end Go.Proofs.YtmmkdbcgkafolaaDoor

