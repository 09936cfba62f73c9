
/-
  The law DeedApart.
-/
import Derived.Test.YtobgdchlblhaiaaLaw4a
import Derived.Test.YtobgdchlblhaiaaDeeR
namespace Go.Proofs.Ytobgdchlblhaiaa
open Go.RowKit
set_option linter.unusedVariables false
set_option linter.unusedSimpArgs false
set_option maxRecDepth 100000

theorem oapart_key {a b : Opn} {p : Int} {x y : List UInt8} (hx : encO a p = x) (hy : encO b p = y) (ha : chkO a p = 0) (hb : chkO b p = 0) :
    (x.length ≤ y.length → (List.take x.length y == x) = decide (a = b)) ∧ (¬ x.length ≤ y.length → decide (a = b) = false) ∧ (x == y) = decide (a = b) := by
  by_cases h : a = b
  · have hxy : x = y := by rw [← hx, ← hy, h]
    rw [decide_eq_true h]
    subst hxy
    refine ⟨fun _ => ?_, fun h => absurd (Nat.le_refl _) h, ?_⟩ <;> simp
  · rw [decide_eq_false h]
    refine ⟨fun _ => ?_, fun _ => rfl, ?_⟩
    · rw [beq_eq_false_iff_ne]
      intro e
      exact h (oenc_apart ha hb (y.drop x.length) (by
        rw [hx, hy]
        conv => rhs; lhs; rw [← e]
        exact (List.take_append_drop _ _).symm))
    · rw [beq_eq_false_iff_ne]
      intro e
      exact h (oenc_apart ha hb [] (by rw [hx, hy, e, List.append_nil]))

set_option maxHeartbeats 4000000 in
theorem dapart_law (o o' : Opn) (v v' : Value) (p : Int) (w : World) (h : CssOf w v o.cs) (h' : CssOf w v' o'.cs) : Calls Try.prog 6 #[opV v o, opV v' o', .int .i64 p] w (LawPost w) := by
  have P1 := fun w h => Lib.hid (dencode_any o v p w h)
  have P2 := fun w h => Lib.hid (dencode_any o' v' p w h)
  have P3 := fun w h h' hn => Lib.hid (op_any o o' v v' w h h' hn)
  obtain ⟨x, hx⟩ : ∃ y, encO o p = y := ⟨_, rfl⟩
  obtain ⟨y, hy⟩ : ∃ y, encO o' p = y := ⟨_, rfl⟩
  obtain ⟨c, hc⟩ : ∃ y, chkO o p = y := ⟨_, rfl⟩
  obtain ⟨d, hd⟩ : ∃ y, chkO o' p = y := ⟨_, rfl⟩
  have KEY : Hid (c = 0 → d = 0 → _) := Lib.hid (fun h1 h2 => oapart_key hx hy (hc.trans h1) (hd.trans h2))
  obtain ⟨u, hu⟩ : ∃ y, decide (o = o') = y := ⟨_, rfl⟩
  rw [hx, hc] at P1
  rw [hy, hd] at P2
  rw [hu] at P3 KEY
  clear hx hy hc hd hu
  obtain ⟨k, a, b, cs, df⟩ := o
  obtain ⟨k', a', b', cs', df'⟩ := o'
  obtain ⟨ao, ca, rfl⟩ := h.shape
  obtain ⟨bo, cb, rfl⟩ := h'.shape
  dsimp only at h h' P1 P2 P3
  obtain ⟨n, hn⟩ : ∃ n, cs.length = n := ⟨_, rfl⟩
  obtain ⟨n', hn'⟩ : ∃ n, cs'.length = n := ⟨_, rfl⟩
  rw [hn] at h P1 P3 ⊢
  rw [hn'] at h' P2 P3 ⊢
  have H := Lib.hid h
  have H' := Lib.hid h'
  unfold opV at P1 P2 P3 ⊢
  dsimp only at P1 P2 P3 ⊢
  have HA : ∀ w', Below (w.heap.size + 2) ((w.alloc (.cells #[.int .i64 k, .int .i64 a, .int .i64 b, .slice ao n ca, .bool df] 24)).alloc (.cells #[.int .i64 k', .int .i64 a', .int .i64 b', .slice bo n' cb, .bool df'] 24)) w' →
      w'.heap[w.heap.size]? = some (Obj.cells #[.int .i64 k, .int .i64 a, .int .i64 b, .slice ao n ca, .bool df] 24 (0, 0)) ∧ w'.heap[w.heap.size + 1]? = some (Obj.cells #[.int .i64 k', .int .i64 a', .int .i64 b', .slice bo n' cb, .bool df'] 24 (0, 0)) := fun w' hB => by
    refine ⟨?_, ?_⟩
    · rw [hB.block _ (by omega), heap_alloc_old _ _ (by simp)]; exact heap_alloc_new _ _
    · rw [hB.block _ (by omega)]
      have := heap_alloc_new (w.alloc (.cells #[.int .i64 k, .int .i64 a, .int .i64 b, .slice ao n ca, .bool df] 24)) (.cells #[.int .i64 k', .int .i64 a', .int .i64 b', .slice bo n' cb, .bool df'] 24)
      rwa [World.size_alloc] at this
  obtain ⟨W, hW⟩ : ∃ W, (w.alloc (.cells #[.int .i64 k, .int .i64 a, .int .i64 b, .slice ao n ca, .bool df] 24)).alloc (.cells #[.int .i64 k', .int .i64 a', .int .i64 b', .slice bo n' cb, .bool df'] 24) = W := ⟨_, rfl⟩
  have BW : Below w.heap.size w W := by rw [← hW]; exact ((Below.refl _ _).alloc (Nat.le_refl _) _).alloc (by simp) _
  have SW : W.heap.size = w.heap.size + 2 := by rw [← hW]; simp
  rw [hW] at HA
  have BW := Lib.hid BW
  have SW := Lib.hid SW
  have HA := Lib.hid HA
  obtain ⟨q1, q2⟩ := HA.out W (Below.refl _ _)
  obtain ⟨z0, z1, z2, z3, z4⟩ := five_cells q1
  obtain ⟨y0, y1, y2, y3, y4⟩ := five_cells q2
  clear q1 q2 h h' hn hn'
  by_cases hb1 : 100 < n
  · have e1 : decide ((100 : Int) < n) = true := decide_eq_true (by omega)
    clear hb1 P1 P2 P3 KEY
    go_enter Try.func6, Try.ntmps6
    go_wp2_with fail
    refine (send_any _).mono ?_
    rintro r w3 ⟨rfl, hB3⟩
    have B3 := Lib.hid (below_next BW.out hB3)
    clear hB3
    go_wp2_with fail
    go_ret
    exact ⟨rfl, B3.out⟩
  have e1 : decide ((100 : Int) < n) = false := decide_eq_false (by omega)
  by_cases hb2 : 100 < n'
  · have e2 : decide ((100 : Int) < n') = true := decide_eq_true (by omega)
    clear hb1 hb2 P1 P2 P3 KEY
    go_enter Try.func6, Try.ntmps6
    go_wp2_with fail
    refine (send_any _).mono ?_
    rintro r w3 ⟨rfl, hB3⟩
    have B3 := Lib.hid (below_next BW.out hB3)
    clear hB3
    go_wp2_with fail
    go_ret
    exact ⟨rfl, B3.out⟩
  have e2 : decide ((100 : Int) < n') = false := decide_eq_false (by omega)
  have P3 := fun w h h' => P3 w h h' (by omega)
  clear hb1 hb2
  go_enter Try.func6, Try.ntmps6
  go_wp2_with fail
  refine ((P1 _ (H.out.below (Nat.le_refl _) BW.out)).out).mono ?_
  rintro r w1 ⟨rfl, hB1⟩
  have B1 := Lib.hid (show Below (w.heap.size + 2) W w1 by rw [← SW.out]; exact hB1)
  clear hB1 z0 z1 z2 z3 z4 y0 y1 y2 y3 y4
  obtain ⟨q1, q2⟩ := HA.out w1 B1.out
  obtain ⟨z0, z1, z2, z3, z4⟩ := five_cells q1
  obtain ⟨y0, y1, y2, y3, y4⟩ := five_cells q2
  clear q1 q2 hW
  have BW1 := Lib.hid (BW.out.trans (B1.out.mono (by omega)))
  go_wp2_with fail
  refine ((P2 _ (H'.out.below (Nat.le_refl _) BW1.out)).out).mono ?_
  rintro r w2 ⟨rfl, hB2⟩
  have B2 := Lib.hid (show Below (w.heap.size + 2) W w2 from B1.out.trans (hB2.mono (by have := B1.out.size; have := SW.out; omega)))
  clear hB2 z0 z1 z2 z3 z4 y0 y1 y2 y3 y4
  obtain ⟨q1, q2⟩ := HA.out w2 B2.out
  obtain ⟨z0, z1, z2, z3, z4⟩ := five_cells q1
  obtain ⟨y0, y1, y2, y3, y4⟩ := five_cells q2
  have BW2 := Lib.hid (BW.out.trans (B2.out.mono (by omega)))
  clear q1 q2
  by_cases hc : c = 0
  · by_cases hd : d = 0
    · subst hc
      subst hd
      obtain ⟨f1, f2, f3⟩ := KEY.out rfl rfl
      by_cases hle : x.length ≤ y.length
      · have g1 := f1 hle
        clear f1 f2 KEY
        go_wp2_with fail
        refine ((P3 _ (H.out.below (Nat.le_refl _) BW2.out) (H'.out.below (Nat.le_refl _) BW2.out)).out).mono ?_
        rintro r w3 ⟨rfl, hB3⟩
        have B3 := Lib.hid (below_next BW2.out hB3)
        clear hB3 z0 z1 z2 z3 z4 y0 y1 y2 y3 y4
        cases u
        all_goals
          go_wp2_with fail
          refine (send_any _).mono ?_
          rintro r w4 ⟨rfl, hB4⟩
          have B4 := Lib.hid (below_next B3.out hB4)
          clear hB4
          go_wp2_with fail
          go_ret
          exact ⟨rfl, B4.out⟩
      · have g1 := f2 hle
        subst g1
        clear f1 f2 KEY
        go_wp2_with fail
        refine ((P3 _ (H.out.below (Nat.le_refl _) BW2.out) (H'.out.below (Nat.le_refl _) BW2.out)).out).mono ?_
        rintro r w3 ⟨rfl, hB3⟩
        have B3 := Lib.hid (below_next BW2.out hB3)
        clear hB3 z0 z1 z2 z3 z4 y0 y1 y2 y3 y4
        go_wp2_with fail
        refine (send_any _).mono ?_
        rintro r w4 ⟨rfl, hB4⟩
        have B4 := Lib.hid (below_next B3.out hB4)
        clear hB4
        go_wp2_with fail
        go_ret
        exact ⟨rfl, B4.out⟩
    · have hd' : (d != 0) = true := by simpa using hd
      have hc' : (c != 0) = false := by simpa using hc
      clear hc hd KEY
      go_wp2_with fail
      refine (send_any _).mono ?_
      rintro r w3 ⟨rfl, hB3⟩
      have B3 := Lib.hid (below_next BW2.out hB3)
      clear hB3
      go_wp2_with fail
      go_ret
      exact ⟨rfl, B3.out⟩
  · have hc' : (c != 0) = true := by simpa using hc
    clear hc KEY
    go_wp2_with fail
    refine (send_any _).mono ?_
    rintro r w3 ⟨rfl, hB3⟩
    have B3 := Lib.hid (below_next BW2.out hB3)
    clear hB3
    go_wp2_with fail
    go_ret
    exact ⟨rfl, B3.out⟩
end Go.Proofs.Ytobgdchlblhaiaa

