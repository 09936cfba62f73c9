
/-
  The reference of layer 4: number.
-/
import Derived.Test.YtpefjcmaggimhaaDeeI
import Derived.Deep.RegionHeld3
namespace Go.Proofs.Ytpefjcmaggimhaa
open Go.RowKit
set_option linter.unusedVariables false
set_option linter.unusedSimpArgs false
set_option maxRecDepth 100000

def numV (l : List UInt8) : Int := if takE l = 0 then takV l else -1
def numR (l : List UInt8) : List UInt8 := if takE l = 0 then takR l else l
def numZ (l : List UInt8) : Nat := if takE l = 0 then (takZ l).toNat else 0
theorem num_drop (l : List UInt8) : numR l = l.drop (numZ l) ∧ numZ l ≤ l.length := by
  unfold numR numZ
  by_cases h : takE l = 0
  · rw [if_pos h, if_pos h]
    unfold takE at h
    unfold takR takZ
    cases ht : tak l with
    | none => rw [ht] at h; simp at h
    | some x =>
      obtain ⟨n, z⟩ := x
      obtain ⟨_, _, h3, _⟩ := tak_some ht
      exact ⟨by simp, by simpa using h3⟩
  · rw [if_neg h, if_neg h]
    exact ⟨rfl, Nat.zero_le _⟩
theorem numR_len (l : List UInt8) : (numR l).length ≤ l.length := by
  rw [(num_drop l).1, List.length_drop]; omega
theorem numV_bd (l : List UInt8) : -1 ≤ numV l ∧ numV l ≤ 1099511627776 := by
  have := takV_bd l
  unfold numV
  split <;> omega
/-- How far was read. -/
structure RnAt (s l : List UInt8) (z : Nat) (g : Nat) (w : World) : Prop where
  blk : w.heap[g]? = some (Obj.cells #[.int .i64 0, .int .i64 0, .int .i64 0, .slice none 0 0, .bool false, .int .i64 z] 83 (0, 0))
  drop : l = s.drop z
  le : z ≤ s.length
theorem RnAt.gr {s l : List UInt8} {z g : Nat} {w w' : World} (h : RnAt s l z g w) {row : Option Nat} (hg : w.grownBy w' row) (hne : some g ≠ row) : RnAt s l z g w' := ⟨(hg.block _ (lt_of_heap h.blk) hne).trans h.blk, h.drop, h.le⟩
theorem RnAt.below {s l : List UInt8} {z g : Nat} {w w' : World} (h : RnAt s l z g w) (hB : Below w.heap.size w w') : RnAt s l z g w' := h.gr (gr_below hB none) (by simp)
theorem six_cells {w : World} {b : Nat} {x0 x1 x2 x3 x4 x5 : Value} {t : TypeId} (h : w.heap[b]? = some (Obj.cells #[x0, x1, x2, x3, x4, x5] t (0, 0))) :
    w.cell? ⟨b, 0, none⟩ = some x0 ∧ w.cell? ⟨b, 1, none⟩ = some x1 ∧ w.cell? ⟨b, 2, none⟩ = some x2 ∧ w.cell? ⟨b, 3, none⟩ = some x3 ∧ w.cell? ⟨b, 4, none⟩ = some x4 ∧ w.cell? ⟨b, 5, none⟩ = some x5 ∧ ∀ o, w.frozen? ⟨b, o, none⟩ = false := by
  refine ⟨?_, ?_, ?_, ?_, ?_, ?_, fun o => by simp [World.frozen?, h]⟩ <;> (simp only [World.cell?, h]; rfl)
def NumbPost (s l : List UInt8) (z g : Nat) (w : World) (r : Ending) (w' : World) : Prop := r = .returned (.int .i64 (numV l)) ∧ RnAt s (numR l) (z + numZ l) g w' ∧ w.grownBy w' (some g)
set_option maxHeartbeats 1000000 in
theorem number_any (s l : List UInt8) (z g : Nat) (w : World) (h : RnAt s l z g w) (hl : s.length ≤ 140737488351232) : Calls Try.prog 69 #[bs s, .pointer (some ⟨g, 0, none⟩)] w (NumbPost s l z g w) := by
  have HL := Lib.hid h
  have hd := h.drop
  have hle := h.le
  have hll : l.length ≤ 140737488351232 := by rw [hd, List.length_drop]; omega
  have TK : Hid (∀ w : World, Calls Try.prog 68 #[bs l] w fun r w' => r = .returned (.tuple #[.agg #[.int .i64 (takV l), .int .i64 (takZ l)], .int .i64 (takE l)]) ∧ Below w.heap.size w w') := Lib.hid (fun w => ref_take_any l w hll)
  have hor := takE_or l
  obtain ⟨q0, q1, q2, q3, q4, q5, qf⟩ := six_cells h.blk
  have ND := num_drop l
  have ZB : takE l = 0 → 0 ≤ takZ l ∧ takZ l ≤ 140737488351232 := fun he => by
    have h1 : numZ l = (takZ l).toNat := by unfold numZ; rw [if_pos he]
    have h2 := ND.2
    refine ⟨?_, by omega⟩
    unfold takZ
    split <;> omega
  have N0 := Lib.hid (show numV l = if takE l = 0 then takV l else -1 from rfl)
  have N1 := Lib.hid (show numZ l = if takE l = 0 then (takZ l).toNat else 0 from rfl)
  have RN := Lib.hid (show numR l = s.drop (z + numZ l) ∧ z + numZ l ≤ s.length by
    refine ⟨by rw [ND.1, hd, List.drop_drop], ?_⟩
    have h2 := ND.2
    rw [hd, List.length_drop] at h2
    rw [hd]; omega)
  obtain ⟨e, he⟩ : ∃ e, takE l = e := ⟨_, rfl⟩
  obtain ⟨v, hv⟩ : ∃ e, takV l = e := ⟨_, rfl⟩
  obtain ⟨u, hu⟩ : ∃ e, takZ l = e := ⟨_, rfl⟩
  rw [he, hv, hu] at TK
  rw [he] at hor N0 N1 ZB
  rw [hv] at N0
  rw [hu] at N1 ZB
  rw [hd] at TK
  have NV := Lib.hid (show numV l = numV (s.drop z) by rw [← hd])
  clear h he hv hu ND
  have hz0 : (z : Int) ≤ s.length := by omega
  rcases hor with rfl | rfl
  · obtain ⟨u0, u1⟩ := ZB rfl
    have hzb : (z : Int) ≤ 140737488351232 := by omega
    go_enter Try.func69, Try.ntmps69
    go_wp2_with fail
    refine (TK.out _).mono ?_
    rintro r w1 ⟨rfl, hB1⟩
    have B1 := Lib.hid hB1
    have h1 := Lib.hid (HL.out.below hB1)
    clear hB1 q0 q1 q2 q3 q4 q5 qf
    have hG := Lib.hid (HL.out.below (B1.out.alloc B1.out.size (.cells #[.int .i64 v, .int .i64 u] 112)))
    obtain ⟨q0, q1, q2, q3, q4, q5, qf⟩ := six_cells h1.out.blk
    have hlt := lt_of_heap h1.out.blk
    have hne : ¬ g = w1.heap.size := by omega
    have hne2 : ¬ w1.heap.size = g := by omega
    go_wp2_with fail
    obtain ⟨X, hX⟩ : ∃ X, w1.alloc (.cells #[.int .i64 v, .int .i64 u] 112) = X := ⟨_, rfl⟩
    have XT : X.heap[w1.heap.size]? = some (Obj.cells #[.int .i64 v, .int .i64 u] 112 (0, 0)) := by rw [← hX]; exact heap_alloc_new w1 _
    have XG := Lib.hid (show w.grownBy X (some g) by rw [← hX]; exact (gr_below B1.out _).trans (World.grownBy_alloc _ _ _))
    rw [hX] at hG ⊢
    clear hX q0 q1 q2 q3 q4 q5 qf
    obtain ⟨q0, q1, q2, q3, q4, q5, qf⟩ := six_cells hG.out.blk
    obtain ⟨x0, x1, xf⟩ := two_cells XT
    have wr1 : IntKind.i64.wrap ((z : Int) + u) = z + u := IntWalk.i64_in _ (by omega)
    clear XT
    go_region_with (fail)
    all_goals
      go_wp2_with fail
      go_ret
      refine ⟨by rw [N0.out]; rfl, ⟨?_, RN.out.1, RN.out.2⟩, (XG.out.trans (gr_drewN _ _ _)).trans (gr_set _ _ _)⟩
      refine (heap_setCell_same _ g 5 _ _ _ hG.out.blk).trans ?_
      rw [show ((z + numZ l : Nat) : Int) = (z : Int) + u by rw [N1.out, if_pos (by trivial)]; omega]
      rfl
  · go_enter Try.func69, Try.ntmps69
    go_wp2_with fail
    refine (TK.out _).mono ?_
    rintro r w1 ⟨rfl, hB1⟩
    have B1 := Lib.hid hB1
    clear hB1 q0 q1 q2 q3 q4 q5 qf
    go_wp2_with fail
    go_ret
    refine ⟨by rw [N0.out]; rfl, ⟨?_, RN.out.1, RN.out.2⟩, (gr_below B1.out _).trans (World.grownBy_alloc _ _ _)⟩
    rw [N1.out]
    exact (HL.out.below (B1.out.alloc B1.out.size _)).blk
end Go.Proofs.Ytpefjcmaggimhaa

