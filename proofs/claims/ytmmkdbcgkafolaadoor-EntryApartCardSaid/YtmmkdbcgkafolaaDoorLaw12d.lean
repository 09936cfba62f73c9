
/-
  The law EntryApart.
-/
import Derived.Test.YtmmkdbcgkafolaaDoorEntH
import Derived.Test.YtmmkdbcgkafolaaDoorEntQ
namespace Go.Proofs.YtmmkdbcgkafolaaDoor
open Go.RowKit
set_option linter.unusedVariables false
set_option linter.unusedSimpArgs false
set_option maxRecDepth 100000

def evEq (a b : Ev) : Bool := a.kind == b.kind && (a.g == b.g && (a.ch == b.ch && (a.cs == b.cs && (a.va == b.va && (a.ma == b.ma && (a.sd == b.sd && a.ok == b.ok))))))
@[local go_sem ↓] theorem run_eqEv (k g ch cs va ma k' g' ch' cs' va' ma' : Int) (sd ok sd' ok' : Bool) (w : World) :
    (Op.equalIn 10000 23 (.agg #[.int .i64 k, .int .i64 g, .int .i64 ch, .int .i64 cs, .int .i64 va, .int .i64 ma, .bool sd, .bool ok]) (.agg #[.int .i64 k', .int .i64 g', .int .i64 ch', .int .i64 cs', .int .i64 va', .int .i64 ma', .bool sd', .bool ok'])).run Tryd.prog w =
      .ok (evEq ⟨k, g, ch, cs, va, ma, sd, ok⟩ ⟨k', g', ch', cs', va', ma', sd', ok'⟩) w := by
  unfold evEq
  dsimp only
  cases h0 : (k == k')
  · go_simp
  cases h1 : (g == g')
  · go_simp
  cases h2 : (ch == ch')
  · go_simp
  cases h3 : (cs == cs')
  · go_simp
  cases h4 : (va == va')
  · go_simp
  cases h5 : (ma == ma')
  · go_simp
  cases h6 : (sd == sd')
  · go_simp
  cases h7 : (ok == ok')
  · go_simp
  · go_simp
theorem evEq_true (a b : Ev) (h : a = b) : evEq a b = true := by subst h; simp [evEq]
theorem evEq_false (a b : Ev) (h : a ≠ b) : evEq a b = false := by
  rw [Bool.eq_false_iff]
  intro e
  obtain ⟨k, g, ch, cs, va, ma, sd, ok⟩ := a
  obtain ⟨k', g', ch', cs', va', ma', sd', ok'⟩ := b
  simp [evEq] at e
  exact h (by simp [e])
theorem apart_key {a b : Ev} {x y : List UInt8} (hx : encS a = x) (hy : encS b = y) (ha : chk a = 0) (hb : chk b = 0) :
    (x.length ≤ y.length → (List.take x.length y == x) = evEq a b) ∧ (¬ x.length ≤ y.length → evEq a b = false) ∧ (x == y) = evEq a b := by
  by_cases h : a = b
  · have hxy : x = y := by rw [← hx, ← hy, h]
    rw [evEq_true a b h]
    subst hxy
    refine ⟨fun _ => ?_, fun h => absurd (Nat.le_refl _) h, ?_⟩ <;> simp
  · rw [evEq_false a b h]
    refine ⟨fun _ => ?_, fun _ => rfl, ?_⟩
    · rw [beq_eq_false_iff_ne]
      intro e
      exact h (enc_apart ha hb (y.drop x.length) (by rw [hx, hy]; conv => rhs; lhs; rw [← e]
                                                     exact (List.take_append_drop _ _).symm))
    · rw [beq_eq_false_iff_ne]
      intro e
      exact h (enc_apart ha hb [] (by rw [hx, hy, e, List.append_nil]))
set_option maxHeartbeats 4000000 in
theorem apart_law (a b : Ev) (w : World) (hg : Glob w) : Calls Tryd.prog 6 #[evV a, evV b] w fun r w' => r = .returned (.bool true) ∧ Below w.heap.size w w' := by
  have G := Lib.hid hg
  have P1 := fun w h => Lib.hid (encode_any a w h)
  have P2 := fun w h => Lib.hid (encode_any b w h)
  obtain ⟨x, hx⟩ : ∃ x, encS a = x := ⟨_, rfl⟩
  obtain ⟨y, hy⟩ : ∃ x, encS b = x := ⟨_, rfl⟩
  obtain ⟨c, hc⟩ : ∃ c, chk a = c := ⟨_, rfl⟩
  obtain ⟨d, hd⟩ : ∃ c, chk b = c := ⟨_, rfl⟩
  have KEY : Hid (c = 0 → d = 0 → _) := Lib.hid (fun h1 h2 => apart_key hx hy (hc.trans h1) (hd.trans h2))
  rw [hx, hc] at P1
  rw [hy, hd] at P2
  have HX := Lib.hid hx
  have HY := Lib.hid hy
  have HC := Lib.hid hc
  have HD := Lib.hid hd
  clear hx hy hc hd hg
  obtain ⟨k, g, ch, cs, va, ma, sd, ok⟩ := a
  obtain ⟨k', g', ch', cs', va', ma', sd', ok'⟩ := b
  unfold evV at P1 P2 ⊢
  dsimp only at P1 P2 ⊢
  have HA : ∀ w', Below (w.heap.size + 2) ((w.alloc (.cells #[.int .i64 k, .int .i64 g, .int .i64 ch, .int .i64 cs, .int .i64 va, .int .i64 ma, .bool sd, .bool ok] 23)).alloc (.cells #[.int .i64 k', .int .i64 g', .int .i64 ch', .int .i64 cs', .int .i64 va', .int .i64 ma', .bool sd', .bool ok'] 23)) w' →
      w'.heap[w.heap.size]? = some (Obj.cells #[.int .i64 k, .int .i64 g, .int .i64 ch, .int .i64 cs, .int .i64 va, .int .i64 ma, .bool sd, .bool ok] 23 (0, 0)) ∧ w'.heap[w.heap.size + 1]? = some (Obj.cells #[.int .i64 k', .int .i64 g', .int .i64 ch', .int .i64 cs', .int .i64 va', .int .i64 ma', .bool sd', .bool ok'] 23 (0, 0)) := fun w' hB => by
    refine ⟨?_, ?_⟩
    · rw [hB.block _ (by omega), heap_alloc_old _ _ (by simp)]; exact heap_alloc_new _ _
    · rw [hB.block _ (by omega)]
      have := heap_alloc_new (w.alloc (.cells #[.int .i64 k, .int .i64 g, .int .i64 ch, .int .i64 cs, .int .i64 va, .int .i64 ma, .bool sd, .bool ok] 23)) (.cells #[.int .i64 k', .int .i64 g', .int .i64 ch', .int .i64 cs', .int .i64 va', .int .i64 ma', .bool sd', .bool ok'] 23)
      rwa [World.size_alloc] at this
  obtain ⟨W, hW⟩ : ∃ W, (w.alloc (.cells #[.int .i64 k, .int .i64 g, .int .i64 ch, .int .i64 cs, .int .i64 va, .int .i64 ma, .bool sd, .bool ok] 23)).alloc (.cells #[.int .i64 k', .int .i64 g', .int .i64 ch', .int .i64 cs', .int .i64 va', .int .i64 ma', .bool sd', .bool ok'] 23) = W := ⟨_, rfl⟩
  have BW : Below w.heap.size w W := by rw [← hW]; exact ((Below.refl _ _).alloc (Nat.le_refl _) _).alloc (by simp) _
  have SW : W.heap.size = w.heap.size + 2 := by rw [← hW]; simp
  rw [hW] at HA
  have BW := Lib.hid BW
  have SW := Lib.hid SW
  have HA := Lib.hid HA
  obtain ⟨p, q⟩ := HA.out W (Below.refl _ _)
  obtain ⟨z0, z1, z2, z3, z4, z5, z6, z7⟩ := eight_cells p
  obtain ⟨y0, y1, y2, y3, y4, y5, y6, y7⟩ := eight_cells q
  clear p q
  go_enter Tryd.func6, Tryd.ntmps6
  go_wp2_with fail
  refine ((P1 _ (G.out.below BW.out)).out).mono ?_
  rintro r w1 ⟨rfl, hB1⟩
  have B1 := Lib.hid (show Below (w.heap.size + 2) W w1 by rw [← SW.out]; exact hB1)
  clear hB1 z0 z1 z2 z3 z4 z5 z6 z7 y0 y1 y2 y3 y4 y5 y6 y7
  obtain ⟨p, q⟩ := HA.out w1 B1.out
  obtain ⟨z0, z1, z2, z3, z4, z5, z6, z7⟩ := eight_cells p
  obtain ⟨y0, y1, y2, y3, y4, y5, y6, y7⟩ := eight_cells q
  clear p q hW
  go_wp2_with fail
  refine ((P2 _ (G.out.below (BW.out.trans (B1.out.mono (by omega))))).out).mono ?_
  rintro r w2 ⟨rfl, hB2⟩
  have B2 := Lib.hid (show Below (w.heap.size + 2) W w2 from B1.out.trans (hB2.mono (by have := B1.out.size; have := SW.out; omega)))
  clear hB2 z0 z1 z2 z3 z4 z5 z6 z7 y0 y1 y2 y3 y4 y5 y6 y7
  obtain ⟨p, q⟩ := HA.out w2 B2.out
  obtain ⟨z0, z1, z2, z3, z4, z5, z6, z7⟩ := eight_cells p
  obtain ⟨y0, y1, y2, y3, y4, y5, y6, y7⟩ := eight_cells q
  clear p q
  by_cases hc : c = 0
  · have hc' : (c != 0) = false := by simpa using hc
    by_cases hd : d = 0
    · have hd' : (d != 0) = false := by simpa using hd
      subst hc
      subst hd
      clear hc' hd'
      obtain ⟨e1, e2, e3⟩ := KEY.out rfl rfl
      obtain ⟨u, hu⟩ : ∃ u, evEq ⟨k, g, ch, cs, va, ma, sd, ok⟩ ⟨k', g', ch', cs', va', ma', sd', ok'⟩ = u := ⟨_, rfl⟩
      rw [hu] at e1 e2 e3
      by_cases hle : x.length ≤ y.length
      · have f1 := e1 hle
        clear e1 e2 KEY
        cases u
        all_goals
          go_wp2_with fail
          refine (exit_any _ (G.out.below (BW.out.trans (B2.out.mono (by omega))))).mono ?_
          rintro r w3 ⟨rfl, hB3⟩
          have B3 := Lib.hid (below_next (BW.out.trans (B2.out.mono (by omega))) hB3)
          clear hB3
          go_wp2_with fail
          go_ret
          exact ⟨rfl, B3.out⟩
      · have f1 := e2 hle
        subst f1
        clear e1 e2 KEY
        go_wp2_with fail
        refine (exit_any _ (G.out.below (BW.out.trans (B2.out.mono (by omega))))).mono ?_
        rintro r w3 ⟨rfl, hB3⟩
        have B3 := Lib.hid (below_next (BW.out.trans (B2.out.mono (by omega))) hB3)
        clear hB3
        go_wp2_with fail
        go_ret
        exact ⟨rfl, B3.out⟩
    · have hd' : (d != 0) = true := by simpa using hd
      clear hc hd
      go_wp2_with fail
      refine (exit_any _ (G.out.below (BW.out.trans (B2.out.mono (by omega))))).mono ?_
      rintro r w3 ⟨rfl, hB3⟩
      have B3 := Lib.hid (below_next (BW.out.trans (B2.out.mono (by omega))) hB3)
      clear hB3
      go_wp2_with fail
      go_ret
      exact ⟨rfl, B3.out⟩
  · have hc' : (c != 0) = true := by simpa using hc
    clear hc
    go_wp2_with fail
    refine (exit_any _ (G.out.below (BW.out.trans (B2.out.mono (by omega))))).mono ?_
    rintro r w3 ⟨rfl, hB3⟩
    have B3 := Lib.hid (below_next (BW.out.trans (B2.out.mono (by omega))) hB3)
    clear hB3
    go_wp2_with fail
    go_ret
    exact ⟨rfl, B3.out⟩
end Go.Proofs.YtmmkdbcgkafolaaDoor

