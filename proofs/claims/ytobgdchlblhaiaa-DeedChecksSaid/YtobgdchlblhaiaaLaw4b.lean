
/-
  The law DeedChecks.
-/
import Derived.Test.YtobgdchlblhaiaaLaw4a
namespace Go.Proofs.Ytobgdchlblhaiaa
open Go.RowKit
set_option linter.unusedVariables false
set_option linter.unusedSimpArgs false
set_option maxRecDepth 100000

theorem namesO_len (o : Opn) : (namesO o).length ≤ o.cs.length + 1 := by
  unfold namesO
  split
  · simp
  · split <;> simp
set_option maxHeartbeats 4000000 in
theorem dchecks_law (o : Opn) (v : Value) (p : Int) (w : World) (h : CssOf w v o.cs) : Calls Try.prog 7 #[opV v o, .int .i64 p] w (LawPost w) := by
  have P1 := fun w h => Lib.hid (dcheck_any o v p w h)
  have P2 := fun w h => Lib.hid (rdcheck_any o v p w h)
  have P3 := fun w => Lib.hid (rel_any o v w)
  have P4 := fun w => Lib.hid (rrel_any o v w)
  have P5 := fun w h hn => Lib.hid (names_any o v w h hn)
  have P6 := fun w h hn => Lib.hid (rnames_any o v w h hn)
  unfold NamesPost at P5 P6
  have NL := namesO_len o
  obtain ⟨c, hc⟩ : ∃ y, chkO o p = y := ⟨_, rfl⟩
  obtain ⟨q, hq⟩ : ∃ y, relB o.k = y := ⟨_, rfl⟩
  obtain ⟨ns, hns⟩ : ∃ y, namesO o = y := ⟨_, rfl⟩
  rw [hc] at P1 P2
  rw [hq] at P3 P4
  rw [hns] at P5 P6 NL
  clear hc hq hns
  obtain ⟨k, a, b, cs, df⟩ := o
  obtain ⟨ao, cap, rfl⟩ := h.shape
  dsimp only at h P1 P2 P3 P4 P5 P6 NL
  obtain ⟨n, hn⟩ : ∃ n, cs.length = n := ⟨_, rfl⟩
  rw [hn] at h P1 P2 P3 P4 P5 P6 NL ⊢
  have H := Lib.hid h
  have E0 := OpAt.new (.slice ao n cap) ⟨k, a, b, cs, df⟩ w
  dsimp only at E0
  obtain ⟨W, hW⟩ : ∃ W, w.alloc (.cells #[.int .i64 k, .int .i64 a, .int .i64 b, .slice ao n cap, .bool df] 24) = W := ⟨_, rfl⟩
  rw [hW] at E0
  have EW := Lib.hid E0
  obtain ⟨z0, z1, z2, z3, z4⟩ := five_cells E0.ev
  dsimp only at z0 z1 z2 z3 z4
  unfold opV at P1 P2 P3 P4 P5 P6 ⊢
  dsimp only at P1 P2 P3 P4 P5 P6 ⊢
  clear h E0 hn
  by_cases hbig : 100 < n
  · have d : decide (100 < n) = true := decide_eq_true hbig
    have d' : (100 : Int) < n := by omega
    clear hbig
    go_enter Try.func7, Try.ntmps7
    go_wp2_with fail
    refine (send_any _).mono ?_
    rintro r w1 ⟨rfl, hB1⟩
    have B1 := Lib.hid (below_next EW.out.bel hB1)
    clear hB1
    go_wp2_with fail
    go_ret
    exact ⟨rfl, B1.out⟩
  · have d : decide (100 < n) = false := decide_eq_false hbig
    have d' : ¬ (100 : Int) < n := by omega
    have hn1 : n ≤ 1000 := by omega
    have NB : ns.length ≤ 140737488351232 := by omega
    have Q5 := fun w h => P5 w h hn1
    have Q6 := fun w h => P6 w h hn1
    have PI := fun a b w ha hb => Lib.hid (ints_any a b ns ns w ha hb NB NB)
    unfold IntsPost at PI
    rw [show decide (ns = ns) = true from decide_eq_true rfl] at PI
    clear hbig P5 P6 NL hn1 NB
    go_enter Try.func7, Try.ntmps7
    go_wp2_with fail
    go_region_held3 (fun w' => w'.cell? ⟨w.heap.size, 0, none⟩ = some (.int .i64 k) ∧ w'.cell? ⟨w.heap.size, 1, none⟩ = some (.int .i64 a) ∧ w'.cell? ⟨w.heap.size, 2, none⟩ = some (.int .i64 b) ∧ w'.cell? ⟨w.heap.size, 3, none⟩ = some (.slice ao n cap) ∧ w'.cell? ⟨w.heap.size, 4, none⟩ = some (.bool df)) (go_keep)
      (first
        | (go_at_call 14; (with_reducible refine ((P1 _ (H.out.below (Nat.le_refl _) EW.out.bel.drew)).out).mono ?_); rintro r w6 ⟨rfl, hB6⟩; have E1 := Lib.hid (EW.out.below (((Below.refl _ _).drew).trans (hB6.mono (Nat.le_refl _)))); clear hB6 z0 z1 z2 z3 z4; obtain ⟨z0, z1, z2, z3, z4⟩ := five_cells E1.out.ev; (try dsimp only at z0 z1 z2 z3 z4))
        | (go_at_call 15; (with_reducible refine ((P2 _ (H.out.below (Nat.le_refl _) E1.out.bel)).out).mono ?_); rintro r w6 ⟨rfl, hB6⟩; have E2 := Lib.hid (E1.out.below hB6); clear hB6 z0 z1 z2 z3 z4; obtain ⟨z0, z1, z2, z3, z4⟩ := five_cells E2.out.ev; (try dsimp only at z0 z1 z2 z3 z4))
        | (go_at_call 16; (with_reducible refine ((P3 _).out).mono ?_); rintro r w6 ⟨rfl, hB6⟩; have E3 := Lib.hid (E2.out.below hB6); clear hB6 z0 z1 z2 z3 z4; obtain ⟨z0, z1, z2, z3, z4⟩ := five_cells E3.out.ev; (try dsimp only at z0 z1 z2 z3 z4))
        | (go_at_call 17; (with_reducible refine ((P4 _).out).mono ?_); rintro r w6 ⟨rfl, hB6⟩; have E4 := Lib.hid (E3.out.below hB6); clear hB6 z0 z1 z2 z3 z4; obtain ⟨z0, z1, z2, z3, z4⟩ := five_cells E4.out.ev; (try dsimp only at z0 z1 z2 z3 z4))
        | (go_at_call 19; (with_reducible refine ((Q5 _ (H.out.below (Nat.le_refl _) E4.out.bel)).out).mono ?_); rintro r w6 ⟨v5, rfl, hs5, hB6⟩; have E5 := Lib.hid (E4.out.below hB6); have S5 := Lib.hid hs5; clear hs5 hB6 z0 z1 z2 z3 z4; obtain ⟨z0, z1, z2, z3, z4⟩ := five_cells E5.out.ev; (try dsimp only at z0 z1 z2 z3 z4))
        | (go_at_call 20; (with_reducible refine ((Q6 _ (H.out.below (Nat.le_refl _) E5.out.bel)).out).mono ?_); rintro r w6 ⟨v6, rfl, hs6, hB6⟩; have E6 := Lib.hid (E5.out.below hB6); have S56 := Lib.hid (S5.out.below hB6); have S6 := Lib.hid hs6; clear hs6 hB6 z0 z1 z2 z3 z4; obtain ⟨z0, z1, z2, z3, z4⟩ := five_cells E6.out.ev; (try dsimp only at z0 z1 z2 z3 z4))
        | (go_at_call 18; (with_reducible refine ((PI _ _ _ S56.out S6.out).out).mono ?_); rintro r w6 ⟨rfl, n7, rfl⟩; have E7 := Lib.hid (E6.out.below (below_drewN (Below.refl _ _) n7)); clear z0 z1 z2 z3 z4; obtain ⟨z0, z1, z2, z3, z4⟩ := five_cells E7.out.ev; (try dsimp only at z0 z1 z2 z3 z4))
        | (go_at_call 8; (with_reducible refine (send_any _).mono ?_); rintro r w6 ⟨rfl, hB6⟩; have E8 := Lib.hid (E7.out.below hB6); clear hB6 z0 z1 z2 z3 z4; obtain ⟨z0, z1, z2, z3, z4⟩ := five_cells E8.out.ev; (try dsimp only at z0 z1 z2 z3 z4)))
    go_wp2_with fail
    go_ret
    exact ⟨rfl, E8.out.bel⟩
end Go.Proofs.Ytobgdchlblhaiaa

