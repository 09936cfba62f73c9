
/-
  The law EntryDecodes.
-/
import Derived.Test.YtmmkdbcgkafolaaDoorEntH
import Derived.Test.YtmmkdbcgkafolaaDoorEntF
namespace Go.Proofs.YtmmkdbcgkafolaaDoor
open Go.RowKit
set_option linter.unusedVariables false
set_option linter.unusedSimpArgs false
set_option maxRecDepth 100000

theorem decodes_law (l : List UInt8) (w : World) (hg : Glob w) (hl : l.length ≤ 140737488351232) : Calls Tryd.prog 4 #[bs l] w fun r w' => r = .returned (.bool true) ∧ Below w.heap.size w w' := by
  have G := Lib.hid hg
  have D1 := fun w h => Lib.hid (decode_any l w h hl)
  have D2 := fun w => Lib.hid (rdecode_any l w hl)
  obtain ⟨x, hx⟩ : ∃ x, decE l = x := ⟨_, rfl⟩
  rw [hx] at D1 D2
  cases hd : decB l with
  | false =>
    obtain ⟨e1, e2, e3⟩ := decF_no hd
    have e4 : gotS l = 0 := by simp [gotS, hd]
    rw [e2, e3] at D1
    rw [e3, e4] at D2
    unfold evV at D1
    unfold gotV at D2
    obtain ⟨k, g, ch, cs, va, ma, sd, ok⟩ := x
    dsimp only at D1 D2
    clear hx hd e1 e2 e3 e4 hg
    go_enter Tryd.func4, Tryd.ntmps4
    go_wp2_with fail
    refine ((D1 _ G.out).out).mono ?_
    rintro r w1 ⟨rfl, hB1⟩
    have B1 := Lib.hid (hB1.alloc hB1.size (.cells #[.int .i64 k, .int .i64 g, .int .i64 ch, .int .i64 cs, .int .i64 va, .int .i64 ma, .bool sd, .bool ok] 23))
    clear hB1
    go_wp2_with fail
    refine ((D2 _).out).mono ?_
    rintro r w2 ⟨rfl, hB2⟩
    have B2 := Lib.hid (below_next B1.out hB2)
    obtain ⟨z0, z1, z2, z3, z4, z5, z6, z7⟩ := eight_cells ((hB2.block _ (by simp)).trans (heap_alloc_new w1 (.cells #[.int .i64 k, .int .i64 g, .int .i64 ch, .int .i64 cs, .int .i64 va, .int .i64 ma, .bool sd, .bool ok] 23)))
    have hs : w1.heap.size < w2.heap.size := by have := hB2.size; simp at this; omega
    clear hB2
    go_wp2_with fail
    refine (exit_any _ (G.out.below (B2.out.alloc B2.out.size _))).mono ?_
    rintro r w3 ⟨rfl, hB3⟩
    have B3 := Lib.hid (below_next (B2.out.alloc B2.out.size _) hB3)
    clear hB3
    go_wp2_with fail
    go_ret
    exact ⟨rfl, B3.out⟩
  | true =>
    have hok : okJ l 7 = true := by unfold decB at hd; rw [Bool.and_eq_true] at hd; exact hd.1
    obtain ⟨h1, h2⟩ := sz_drop l 7 hok
    have e2 : decR l = l.drop (szN l 7) := by unfold decR; rw [if_pos hd, h1]
    have e3 : decF l = 0 := by unfold decF; rw [if_pos hd]
    have e4 : gotS l = (szN l 7 : Int) := by unfold gotS; rw [if_pos hd]
    rw [e2, e3] at D1
    rw [e3, e4] at D2
    obtain ⟨a, ha⟩ : ∃ a, szN l 7 = a := ⟨_, rfl⟩
    rw [ha] at D1 D2 h2
    unfold evV at D1
    unfold gotV at D2
    obtain ⟨k, g, ch, cs, va, ma, sd, ok⟩ := x
    dsimp only at D1 D2
    clear hx hd e2 e3 e4 hg h1 ha hok
    go_enter Tryd.func4, Tryd.ntmps4
    go_wp2_with fail
    refine ((D1 _ G.out).out).mono ?_
    rintro r w1 ⟨rfl, hB1⟩
    have B1 := Lib.hid (hB1.alloc hB1.size (.cells #[.int .i64 k, .int .i64 g, .int .i64 ch, .int .i64 cs, .int .i64 va, .int .i64 ma, .bool sd, .bool ok] 23))
    clear hB1
    go_wp2_with fail
    refine ((D2 _).out).mono ?_
    rintro r w2 ⟨rfl, hB2⟩
    have B2 := Lib.hid (below_next B1.out hB2)
    obtain ⟨z0, z1, z2, z3, z4, z5, z6, z7⟩ := eight_cells ((hB2.block _ (by simp)).trans (heap_alloc_new w1 (.cells #[.int .i64 k, .int .i64 g, .int .i64 ch, .int .i64 cs, .int .i64 va, .int .i64 ma, .bool sd, .bool ok] 23)))
    have hs : w1.heap.size < w2.heap.size := by have := hB2.size; simp at this; omega
    clear hB2
    go_wp2_with fail
    refine (exit_any _ (G.out.below (B2.out.alloc B2.out.size _))).mono ?_
    rintro r w3 ⟨rfl, hB3⟩
    have B3 := Lib.hid (below_next (B2.out.alloc B2.out.size _) hB3)
    clear hB3
    go_wp2_with fail
    go_ret
    exact ⟨rfl, B3.out⟩
end Go.Proofs.YtmmkdbcgkafolaaDoor

