
/-
  RemapNil.
-/
import Derived.Test.YtmhonibalgddcaaRemM
namespace Go.Proofs.Ytmhonibalgddcaa
open Go.RowKit
set_option linter.unusedVariables false
set_option linter.unusedSimpArgs false
set_option maxRecDepth 100000

structure Stp where
  wh : Int
  g : Int
  n : Int
  at' : Int
instance : Inhabited Stp := ⟨⟨0, 0, 0, 0⟩⟩
def stpV (s : Stp) : Value := .agg #[.int .i64 s.wh, .int .i64 s.g, .int .i64 s.n, .int .i64 s.at']

set_option maxHeartbeats 4000000 in
theorem nil_law (s : Stp) (w : World) : Calls Try.prog 5 #[stpV s] w fun e w' => e = .returned (.bool true) ∧ Below w.heap.size w w' := by
  obtain ⟨wh, g, n, a⟩ := s
  unfold stpV
  dsimp only
  have BN : ∀ w, Calls Try.prog 17 #[.pointer none, .int .i64 g, .int .i64 n, .int .i64 a] w fun e w' => e = .returned (.int .i64 (if badB g n a then 1 else 7)) ∧ w = w' := fun w => born_nil g n a w
  have GN : ∀ w, Calls Try.prog 18 #[.pointer none, .int .i64 g, .int .i64 a, .int .i64 n] w fun e w' => e = .returned (.int .i64 (if badC a n then 1 else 7)) ∧ w = w' := fun w => gone_nil g a n w
  have PB := Lib.hid BN
  have PG := Lib.hid GN
  clear BN GN
  obtain ⟨W0, hW0⟩ : ∃ W0, w.alloc (.cells #[.int .i64 wh, .int .i64 g, .int .i64 n, .int .i64 a] 29) = W0 := ⟨_, rfl⟩
  have HS0 : W0.heap[w.heap.size]? = some (.cells #[.int .i64 wh, .int .i64 g, .int .i64 n, .int .i64 a] 29 (0, 0)) := by rw [← hW0]; exact heap_alloc_new w _
  have BW0 : Below w.heap.size w W0 := by rw [← hW0]; exact (Below.refl _ _).alloc (Nat.le_refl _) _
  have HW := Lib.hid hW0
  have HS := Lib.hid HS0
  have HB := Lib.hid BW0
  clear hW0 HS0 BW0
  have fin : ∀ (e1 e2 : Int) (x y : Bool), (∀ w1, Below w.heap.size w w1 → True) → True := fun _ _ _ _ _ => trivial
  clear fin
  rcases bad_cases g n a with ⟨hv, h⟩ | ⟨hv, h⟩ <;> rcases badc_cases a n with ⟨hu, k⟩ | ⟨hu, k⟩ <;> rw [hv] at PB <;> rw [hu] at PG <;> clear hv hu <;> simp only [if_true, if_false, Bool.false_eq_true] at PB PG
  · rcases h with h1 | ⟨h1, h2⟩ | ⟨h1, h2, h3⟩ | ⟨h1, h2, h3, h4⟩ <;> rcases k with k1 | ⟨k1, k2⟩ | ⟨k1, k2, k3⟩ <;> try omega
    all_goals (
      try have k9 : decide (n ≤ 1048576) = false := decide_eq_false (by omega)
      go_enter Try.func5, Try.ntmps5
      go_wp2_with fail
      refine (PB.out _).mono ?_
      rintro e w1 ⟨rfl, rfl⟩
      go_wp2_with fail
      refine (PG.out _).mono ?_
      rintro e w1 ⟨rfl, rfl⟩
      go_wp2_with fail
      rw [HW.out]
      refine (of_nil g _).mono ?_
      rintro e w1 ⟨rfl, hb1⟩
      have hs1 := (hb1.block _ (lt_of_heap HS.out)).trans HS.out
      have B1 := Lib.hid (below_trans HB.out hb1 HB.out.size)
      have d1 : ∀ X, (w1.alloc X).cell? ⟨w.heap.size, 1, none⟩ = some (.int .i64 g) := fun X => by rw [World.cell?_of_block (heap_alloc_old w1 _ (lt_of_heap hs1))]; simp only [World.cell?, hs1]; rfl
      have d2 : ∀ X, (w1.alloc X).cell? ⟨w.heap.size, 2, none⟩ = some (.int .i64 n) := fun X => by rw [World.cell?_of_block (heap_alloc_old w1 _ (lt_of_heap hs1))]; simp only [World.cell?, hs1]; rfl
      have d3 : ∀ X, (w1.alloc X).cell? ⟨w.heap.size, 3, none⟩ = some (.int .i64 a) := fun X => by rw [World.cell?_of_block (heap_alloc_old w1 _ (lt_of_heap hs1))]; simp only [World.cell?, hs1]; rfl
      clear hb1 hs1
      unfold recV
      go_wp2_with fail
      refine (owner_nil n a _).mono ?_
      rintro e w2 ⟨rfl, hb2⟩
      have B2 := Lib.hid (below_trans (B1.out.alloc B1.out.size _) hb2 (by rw [size_alloc]; have := B1.out.size; omega))
      clear hb2 d1 d2 d3
      go_wp2_with fail
      refine (all_nil w2).mono ?_
      rintro e w3 ⟨rfl, rfl⟩
      go_wp2_with fail
      refine (turns_any w2).mono ?_
      rintro e w3 ⟨rfl, hb3⟩
      have B3 := Lib.hid (below_trans B2.out hb3 B2.out.size)
      clear hb3
      go_wp2_with fail
      go_ret
      exact ⟨rfl, B3.out⟩)
  · rcases h with h1 | ⟨h1, h2⟩ | ⟨h1, h2, h3⟩ | ⟨h1, h2, h3, h4⟩ <;> obtain ⟨k1, k2, k3⟩ := k <;> try omega
    all_goals (
      try have k9 : decide (n ≤ 1048576) = false := decide_eq_false (by omega)
      go_enter Try.func5, Try.ntmps5
      go_wp2_with fail
      refine (PB.out _).mono ?_
      rintro e w1 ⟨rfl, rfl⟩
      go_wp2_with fail
      refine (PG.out _).mono ?_
      rintro e w1 ⟨rfl, rfl⟩
      go_wp2_with fail
      rw [HW.out]
      refine (of_nil g _).mono ?_
      rintro e w1 ⟨rfl, hb1⟩
      have hs1 := (hb1.block _ (lt_of_heap HS.out)).trans HS.out
      have B1 := Lib.hid (below_trans HB.out hb1 HB.out.size)
      have d1 : ∀ X, (w1.alloc X).cell? ⟨w.heap.size, 1, none⟩ = some (.int .i64 g) := fun X => by rw [World.cell?_of_block (heap_alloc_old w1 _ (lt_of_heap hs1))]; simp only [World.cell?, hs1]; rfl
      have d2 : ∀ X, (w1.alloc X).cell? ⟨w.heap.size, 2, none⟩ = some (.int .i64 n) := fun X => by rw [World.cell?_of_block (heap_alloc_old w1 _ (lt_of_heap hs1))]; simp only [World.cell?, hs1]; rfl
      have d3 : ∀ X, (w1.alloc X).cell? ⟨w.heap.size, 3, none⟩ = some (.int .i64 a) := fun X => by rw [World.cell?_of_block (heap_alloc_old w1 _ (lt_of_heap hs1))]; simp only [World.cell?, hs1]; rfl
      clear hb1 hs1
      unfold recV
      go_wp2_with fail
      refine (owner_nil n a _).mono ?_
      rintro e w2 ⟨rfl, hb2⟩
      have B2 := Lib.hid (below_trans (B1.out.alloc B1.out.size _) hb2 (by rw [size_alloc]; have := B1.out.size; omega))
      clear hb2 d1 d2 d3
      go_wp2_with fail
      refine (all_nil w2).mono ?_
      rintro e w3 ⟨rfl, rfl⟩
      go_wp2_with fail
      refine (turns_any w2).mono ?_
      rintro e w3 ⟨rfl, hb3⟩
      have B3 := Lib.hid (below_trans B2.out hb3 B2.out.size)
      clear hb3
      go_wp2_with fail
      go_ret
      exact ⟨rfl, B3.out⟩)
  · obtain ⟨h1, h2, h3, h4⟩ := h
    rcases k with k1 | ⟨k1, k2⟩ | ⟨k1, k2, k3⟩ <;> try omega
  · obtain ⟨h1, h2, h3, h4⟩ := h
    obtain ⟨k1, k2, k3⟩ := k
    go_enter Try.func5, Try.ntmps5
    go_wp2_with fail
    refine (PB.out _).mono ?_
    rintro e w1 ⟨rfl, rfl⟩
    go_wp2_with fail
    refine (PG.out _).mono ?_
    rintro e w1 ⟨rfl, rfl⟩
    go_wp2_with fail
    rw [HW.out]
    refine (of_nil g _).mono ?_
    rintro e w1 ⟨rfl, hb1⟩
    have hs1 := (hb1.block _ (lt_of_heap HS.out)).trans HS.out
    have B1 := Lib.hid (below_trans HB.out hb1 HB.out.size)
    have d1 : ∀ X, (w1.alloc X).cell? ⟨w.heap.size, 1, none⟩ = some (.int .i64 g) := fun X => by rw [World.cell?_of_block (heap_alloc_old w1 _ (lt_of_heap hs1))]; simp only [World.cell?, hs1]; rfl
    have d2 : ∀ X, (w1.alloc X).cell? ⟨w.heap.size, 2, none⟩ = some (.int .i64 n) := fun X => by rw [World.cell?_of_block (heap_alloc_old w1 _ (lt_of_heap hs1))]; simp only [World.cell?, hs1]; rfl
    have d3 : ∀ X, (w1.alloc X).cell? ⟨w.heap.size, 3, none⟩ = some (.int .i64 a) := fun X => by rw [World.cell?_of_block (heap_alloc_old w1 _ (lt_of_heap hs1))]; simp only [World.cell?, hs1]; rfl
    clear hb1 hs1
    unfold recV
    go_wp2_with fail
    refine (owner_nil n a _).mono ?_
    rintro e w2 ⟨rfl, hb2⟩
    have B2 := Lib.hid (below_trans (B1.out.alloc B1.out.size _) hb2 (by rw [size_alloc]; have := B1.out.size; omega))
    clear hb2 d1 d2 d3
    go_wp2_with fail
    refine (all_nil w2).mono ?_
    rintro e w3 ⟨rfl, rfl⟩
    go_wp2_with fail
    refine (turns_any w2).mono ?_
    rintro e w3 ⟨rfl, hb3⟩
    have B3 := Lib.hid (below_trans B2.out hb3 B2.out.size)
    clear hb3
    go_wp2_with fail
    go_ret
    exact ⟨rfl, B3.out⟩
end Go.Proofs.Ytmhonibalgddcaa

