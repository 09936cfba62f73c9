
/-
  Package sheet: long, outside.
-/
import Derived.Test.YtpefjcmaggimhaaSheA
namespace Go.Proofs.Ytpefjcmaggimhaa
open Go.RowKit
set_option linter.unusedVariables false
set_option linter.unusedSimpArgs false
set_option maxRecDepth 100000

theorem five_new {w W : World} {t : TypeId} {a0 a1 a2 a3 a4 : Value} (hW : w.alloc (.cells #[a0, a1, a2, a3, a4] t) = W) : Below w.heap.size w W ∧ W.heap[w.heap.size]? = some (.cells #[a0, a1, a2, a3, a4] t (0, 0)) := by
  subst hW
  exact ⟨(Below.refl _ _).alloc (Nat.le_refl _) _, heap_alloc_new w _⟩
set_option maxHeartbeats 1000000 in
theorem long_any (vp vl vd : Value) (s : Scr) (w : World) (h : ScrAt w vp vl vd s) (hN : s.ps.length ≤ 1000000) :
    Calls Try.prog 32 #[scrV vp vl vd s] w fun r w' => r = .returned (.bool (longB s)) ∧ Below w.heap.size w w' := by
  have CON := fun X hX => lcon_any vp s.ps X (h.p.below (Nat.le_refl _) hX) hN
  obtain ⟨t, m, ps, pl, dr⟩ := s
  unfold scrV scrC longB
  dsimp only at CON h ⊢
  obtain ⟨ap, cp, rfl⟩ := h.p.shape
  obtain ⟨al, cl, rfl⟩ := slI_shape h.l
  obtain ⟨ad, cd, rfl⟩ := slI_shape h.d
  dsimp only at CON ⊢
  obtain ⟨np, hnp⟩ : ∃ n, ps.length = n := ⟨_, rfl⟩
  obtain ⟨nl, hnl⟩ : ∃ n, pl.length = n := ⟨_, rfl⟩
  obtain ⟨nd, hnd⟩ : ∃ n, dr.length = n := ⟨_, rfl⟩
  rw [hnp] at CON
  rw [hnp, hnl, hnd]
  obtain ⟨y, hy⟩ : ∃ y, ps.any long1 = y := ⟨_, rfl⟩
  rw [hy] at CON
  rw [hy]
  obtain ⟨W, hW⟩ : ∃ W, w.alloc (.cells #[.int .i64 t, .int .i64 m, .slice ap np cp, .slice al nl cl, .slice ad nd cd] 25) = W := ⟨_, rfl⟩
  obtain ⟨b1, z⟩ := five_new hW
  obtain ⟨z0, z1, z2, z3, z4⟩ := five_cells z
  have B1 := Lib.hid b1
  have HW := Lib.hid hW
  have CA := Lib.hid (CON W b1)
  clear h hN CON hnp hnl hnd hy hW b1 z
  have ways : (decide (8 < np) = true ∧ (8 : Int) < np) ∨ (decide (8 < np) = false ∧ ¬ (8 : Int) < np ∧ decide (200 < nl) = true ∧ (200 : Int) < nl) ∨ (decide (8 < np) = false ∧ ¬ (8 : Int) < np ∧ decide (200 < nl) = false ∧ ¬ (200 : Int) < nl ∧ decide (64 < nd) = true ∧ (64 : Int) < nd) ∨ (decide (8 < np) = false ∧ ¬ (8 : Int) < np ∧ decide (200 < nl) = false ∧ ¬ (200 : Int) < nl ∧ decide (64 < nd) = false ∧ ¬ (64 : Int) < nd) := by
    by_cases h1 : 8 < np
    · exact .inl ⟨decide_eq_true h1, by omega⟩
    · by_cases h2 : 200 < nl
      · exact .inr (.inl ⟨decide_eq_false h1, by omega, decide_eq_true h2, by omega⟩)
      · by_cases h3 : 64 < nd
        · exact .inr (.inr (.inl ⟨decide_eq_false h1, by omega, decide_eq_false h2, by omega, decide_eq_true h3, by omega⟩))
        · exact .inr (.inr (.inr ⟨decide_eq_false h1, by omega, decide_eq_false h2, by omega, decide_eq_false h3, by omega⟩))
  rcases ways with ⟨e1, h1⟩ | ⟨e1, h1, e2, h2⟩ | ⟨e1, h1, e2, h2, e3, h3⟩ | ⟨e1, h1, e2, h2, e3, h3⟩
  · rw [e1]
    go_enter Try.func32, Try.ntmps32
    go_upto_region 1 with fail
    rw [HW.out]
    go_wp2_with fail
    go_ret
    exact ⟨rfl, B1.out⟩
  · rw [e1, e2]
    go_enter Try.func32, Try.ntmps32
    go_upto_region 1 with fail
    rw [HW.out]
    go_wp2_with fail
    go_ret
    exact ⟨rfl, B1.out⟩
  · rw [e1, e2, e3]
    go_enter Try.func32, Try.ntmps32
    go_upto_region 1 with fail
    rw [HW.out]
    go_wp2_with fail
    go_ret
    exact ⟨rfl, B1.out⟩
  · rw [e1, e2, e3]
    go_enter Try.func32, Try.ntmps32
    go_upto_region 1 with fail
    rw [HW.out]
    go_wp2_with fail
    refine CA.out.mono ?_
    rintro e w1 ⟨rfl, rfl⟩
    go_wp2_with fail
    go_ret
    exact ⟨rfl, B1.out⟩

/-! ### outside -/
def out1 (a b n : Int) : Bool := decide (n < a) || decide (b < n)
theorem out1_any (q1 q2 : Nat) (a b n : Int) (w : World) (h1 : w.cell? ⟨q1, 0, none⟩ = some (.int .i64 a)) (h2 : w.cell? ⟨q2, 0, none⟩ = some (.int .i64 b)) :
    Calls Try.prog 60 #[.int .i64 n, .pointer (some ⟨q1, 0, none⟩), .pointer (some ⟨q2, 0, none⟩)] w fun r w' => r = .returned (.bool (out1 a b n)) ∧ w = w' := by
  unfold out1
  by_cases h3 : n < a
  · rw [decide_eq_true h3]
    go_enter Try.func60, Try.ntmps60
    go_wp2_with fail
    go_ret
    exact ⟨rfl, rfl⟩
  · rw [decide_eq_false h3]
    by_cases h4 : b < n
    · rw [decide_eq_true h4]
      go_enter Try.func60, Try.ntmps60
      go_wp2_with fail
      go_ret
      exact ⟨by simp [*], rfl⟩
    · rw [decide_eq_false h4]
      go_enter Try.func60, Try.ntmps60
      go_wp2_with fail
      go_ret
      exact ⟨by simp [*], rfl⟩
theorem getD_memI {ps : List Int} {k : Nat} (hk : k < ps.length) : ps.getD k 0 ∈ ps := by
  rw [List.getD_eq_getElem?_getD, List.getElem?_eq_getElem hk]; exact List.getElem_mem _
theorem oidx_any (v : Value) (l : List Int) (q1 q2 : Nat) (a b : Int) (w : World) (h : SlI w v l) (hN : l.length ≤ 1000000) (h1 : w.cell? ⟨q1, 0, none⟩ = some (.int .i64 a)) (h2 : w.cell? ⟨q2, 0, none⟩ = some (.int .i64 b)) :
    Calls Try.prog 71 #[v, .func (.func 60) #[] #[.pointer (some ⟨q1, 0, none⟩), .pointer (some ⟨q2, 0, none⟩)]] w fun r w' => (∃ i : Int, r = .returned (.int .i64 i) ∧ (i = -1 ∧ l.any (out1 a b) = false ∨ 0 ≤ i ∧ l.any (out1 a b) = true)) ∧ w = w' := by
  obtain ⟨ao, cap, rfl⟩ := slI_shape h
  obtain ⟨n, hn⟩ : ∃ n, l.length = n := ⟨_, rfl⟩
  rw [hn] at h hN ⊢
  have H := Lib.hid h
  have HN := Lib.hid hn
  have CAL := Lib.hid (fun n => out1_any q1 q2 a b n w h1 h2)
  clear h hn h1 h2
  go_enter Try.func71, Try.ntmps71
  go_wp2_with fail
  go_loopw [8] (fun i wr => ∃ k : Nat, k ≤ n ∧ i = .int .i64 k ∧ (∀ j, j < k → out1 a b (l.getD j 0) = false) ∧ w = wr) (fun i _ => n - (intOf i).toNat)
  case atStart => exact ⟨0, by omega, rfl, fun j hj => by omega, rfl⟩
  case round =>
    obtain ⟨k, hk, rfl, hp, rfl⟩ := hrel
    have K := Lib.hid hp
    clear hp
    by_cases hlt : k < n
    · have hlt' : (k : Int) < (n : Int) := by omega
      obtain ⟨b', o, rfl, c0⟩ := slI_at H.out k (by have := HN.out; omega)
      have CA := Lib.hid (CAL.out (l.getD k 0))
      obtain ⟨x, hx⟩ : ∃ x, l.getD k 0 = x := ⟨_, rfl⟩
      rw [hx] at c0 CA
      cases hh : out1 a b x with
      | true =>
        rw [hh] at CA
        have T := Lib.hid (show l.any (out1 a b) = true from by rw [List.any_eq_true]; exact ⟨_, getD_memI (ps := l) (k := k) (by have := HN.out; omega), by rw [hx]; exact hh⟩)
        clear hh hx
        go_wp2_with fail
        refine CA.out.mono ?_
        rintro e w1 ⟨rfl, rfl⟩
        go_wp2_with fail
        go_ret
        exact ⟨⟨_, rfl, .inr ⟨by omega, T.out⟩⟩, by first | rfl | trivial⟩
      | false =>
        rw [hh] at CA
        have T := Lib.hid (show ∀ j, j < k + 1 → out1 a b (l.getD j 0) = false from fun j hj => by
          by_cases hjk : j = k
          · subst hjk; rw [hx]; exact hh
          · exact K.out j (by omega))
        clear hh hx
        go_wp2_with fail
        refine CA.out.mono ?_
        rintro e w1 ⟨rfl, rfl⟩
        go_wp2_with fail
        go_roundw
        case rel => exact ⟨k + 1, by omega, by go_num, T.out, by first | rfl | trivial⟩
        case measure => simp [intOf] <;> omega
    · obtain rfl : k = n := by omega
      have T := Lib.hid (show l.any (out1 a b) = false from by
        rw [List.any_eq_false]
        intro x hx
        obtain ⟨j, hj, rfl⟩ := List.getElem_of_mem hx
        have := K.out j (by have := HN.out; omega)
        rw [List.getD_eq_getElem?_getD, List.getElem?_eq_getElem hj] at this
        simpa using this)
      go_wp2_with fail
      go_ret
      exact ⟨⟨_, rfl, .inl ⟨rfl, T.out⟩⟩, by first | rfl | trivial⟩
theorem ocon_any (v : Value) (l : List Int) (q1 q2 : Nat) (a b : Int) (w : World) (h : SlI w v l) (hN : l.length ≤ 1000000) (h1 : w.cell? ⟨q1, 0, none⟩ = some (.int .i64 a)) (h2 : w.cell? ⟨q2, 0, none⟩ = some (.int .i64 b)) :
    Calls Try.prog 59 #[v, .func (.func 60) #[] #[.pointer (some ⟨q1, 0, none⟩), .pointer (some ⟨q2, 0, none⟩)]] w fun r w' => r = .returned (.bool (l.any (out1 a b))) ∧ w = w' := by
  have CA := Lib.hid (oidx_any v l q1 q2 a b w h hN h1 h2)
  obtain ⟨ao, cap, rfl⟩ := slI_shape h
  obtain ⟨y, hy⟩ : ∃ y, l.any (out1 a b) = y := ⟨_, rfl⟩
  rw [hy] at CA ⊢
  clear hy h h1 h2
  go_enter Try.func59, Try.ntmps59
  go_wp2_with fail
  refine CA.out.mono ?_
  rintro e w1 ⟨⟨i, rfl, ⟨rfl, rfl⟩ | ⟨h0, rfl⟩⟩, rfl⟩
  · go_wp2_with fail
    go_ret
    exact ⟨rfl, rfl⟩
  · go_wp2_with fail
    go_ret
    exact ⟨by simp [*], rfl⟩
theorem outside_any (v : Value) (l : List Int) (a b : Int) (w : World) (h : SlI w v l) (hN : l.length ≤ 1000000) :
    Calls Try.prog 33 #[v, .int .i64 a, .int .i64 b] w fun r w' => r = .returned (.bool (l.any (out1 a b))) ∧ Below w.heap.size w w' := by
  obtain ⟨W1, hW1⟩ : ∃ W, w.alloc (.cells #[.int .i64 a] 3) = W := ⟨_, rfl⟩
  obtain ⟨W2, hW2⟩ : ∃ W, W1.alloc (.cells #[.int .i64 b] 3) = W := ⟨_, rfl⟩
  have b1 : Below w.heap.size w W1 := by rw [← hW1]; exact (Below.refl _ _).alloc (Nat.le_refl _) _
  have b2 : Below W1.heap.size W1 W2 := by rw [← hW2]; exact (Below.refl _ _).alloc (Nat.le_refl _) _
  have x1 : W1.heap[w.heap.size]? = some (.cells #[.int .i64 a] 3 (0, 0)) := by rw [← hW1]; exact heap_alloc_new w _
  have x2 : W2.heap[W1.heap.size]? = some (.cells #[.int .i64 b] 3 (0, 0)) := by rw [← hW2]; exact heap_alloc_new W1 _
  have hs : W1.heap.size = w.heap.size + 1 := by rw [← hW1, World.size_alloc]
  have B2 := Lib.hid (below_trans b1 b2 b1.size)
  have y1 : W2.cell? ⟨w.heap.size, 0, none⟩ = some (.int .i64 a) := by simp only [World.cell?, (b2.block _ (lt_of_heap x1)).trans x1]; rfl
  have y2 : W2.cell? ⟨w.heap.size + 1, 0, none⟩ = some (.int .i64 b) := by rw [← hs]; simp only [World.cell?, x2]; rfl
  have CA := Lib.hid (ocon_any v l w.heap.size (w.heap.size + 1) a b W2 (slI_below h (Nat.le_refl _) B2.out) hN y1 y2)
  have HW1 := Lib.hid hW1
  have HW2 := Lib.hid hW2
  obtain ⟨ao, cap, rfl⟩ := slI_shape h
  clear h b1 b2 x1 x2 hs y1 y2 hW1 hW2
  go_enter Try.func33, Try.ntmps33
  go_upto_region 1 with fail
  rw [HW1.out, HW2.out]
  go_wp2_with fail
  refine CA.out.mono ?_
  rintro e w1 ⟨rfl, rfl⟩
  go_wp2_with fail
  go_ret
  exact ⟨rfl, B2.out⟩
end Go.Proofs.Ytpefjcmaggimhaa

