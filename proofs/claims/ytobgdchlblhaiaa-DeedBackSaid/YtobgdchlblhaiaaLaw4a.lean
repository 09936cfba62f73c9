
/-
  The laws DeedEncodes, DeedDecodes.
-/
import Derived.Test.YtobgdchlblhaiaaDeeQ
import Derived.Test.YtobgdchlblhaiaaDeeM
import Derived.Test.YtobgdchlblhaiaaDeeN
import Derived.Test.YtobgdchlblhaiaaDeeP
namespace Go.Proofs.Ytobgdchlblhaiaa
open Go.RowKit
set_option linter.unusedVariables false
set_option linter.unusedSimpArgs false
set_option maxRecDepth 100000

def LawPost (w : World) (r : Ending) (w' : World) : Prop := r = .returned (.bool true) ∧ Below w.heap.size w w'
set_option maxHeartbeats 2000000 in
theorem dencodes_law (o : Opn) (v : Value) (p : Int) (w : World) (h : CssOf w v o.cs) : Calls Try.prog 3 #[opV v o, .int .i64 p] w (LawPost w) := by
  have P1 := fun w h => Lib.hid (dencode_any o v p w h)
  have P2 := fun w h => Lib.hid (rdencode_any o v p w h)
  obtain ⟨y, hy⟩ : ∃ y, encO o p = y := ⟨_, rfl⟩
  obtain ⟨c, hc⟩ : ∃ y, chkO o p = y := ⟨_, rfl⟩
  rw [hy, hc] at P1 P2
  clear hy hc
  obtain ⟨k, a, b, cs, df⟩ := o
  obtain ⟨ao, cap, rfl⟩ := h.shape
  dsimp only at h P1 P2
  obtain ⟨n, hn⟩ : ∃ n, cs.length = n := ⟨_, rfl⟩
  rw [hn] at h P1 P2 ⊢
  have H := Lib.hid h
  have E0 := OpAt.new (.slice ao n cap) ⟨k, a, b, cs, df⟩ w
  dsimp only at E0
  obtain ⟨W, hW⟩ : ∃ W, w.alloc (.cells #[.int .i64 k, .int .i64 a, .int .i64 b, .slice ao n cap, .bool df] 24) = W := ⟨_, rfl⟩
  rw [hW] at E0
  have EW := Lib.hid E0
  obtain ⟨z0, z1, z2, z3, z4⟩ := five_cells E0.ev
  dsimp only at z0 z1 z2 z3 z4
  unfold opV at P1 P2 ⊢
  dsimp only at P1 P2 ⊢
  clear h E0
  by_cases hbig : 100 < n
  · have d : decide (100 < n) = true := decide_eq_true hbig
    have d' : (100 : Int) < n := by omega
    clear hbig
    go_enter Try.func3, Try.ntmps3
    go_wp2_with fail
    refine (send_any _).mono ?_
    rintro r w1 ⟨rfl, hB1⟩
    have B1 := Lib.hid (below_next EW.out.bel hB1)
    clear hB1
    go_wp2_with fail
    go_ret
    exact ⟨rfl, B1.out⟩
  · have d : decide (100 < n) = false := decide_eq_false hbig
    have d' : ¬ (100 : Int) < n := by omega
    clear hbig
    go_enter Try.func3, Try.ntmps3
    go_wp2_with fail
    refine ((P1 _ (H.out.below (Nat.le_refl _) EW.out.bel)).out).mono ?_
    rintro r w1 ⟨rfl, hB1⟩
    have E1 := Lib.hid (EW.out.below hB1)
    clear hB1 z0 z1 z2 z3 z4 hW
    obtain ⟨z0, z1, z2, z3, z4⟩ := five_cells E1.out.ev
    dsimp only at z0 z1 z2 z3 z4
    go_wp2_with fail
    refine ((P2 _ (H.out.below (Nat.le_refl _) E1.out.bel)).out).mono ?_
    rintro r w2 ⟨rfl, hB2⟩
    have B2 := Lib.hid (E1.out.below hB2).bel
    clear hB2
    go_wp2_with fail
    refine (send_any _).mono ?_
    rintro r w3 ⟨rfl, hB3⟩
    have B3 := Lib.hid (below_next B2.out hB3)
    clear hB3
    go_wp2_with fail
    go_ret
    exact ⟨rfl, B3.out⟩

def Sfx (s l : List UInt8) : Prop := ∃ z, l = s.drop z ∧ z ≤ s.length
theorem Sfx.num {s l : List UInt8} (h : Sfx s l) : Sfx s (numR l) := by
  obtain ⟨z, rfl, hz⟩ := h
  obtain ⟨h1, h2⟩ := num_drop (s.drop z)
  rw [List.length_drop] at h2
  exact ⟨z + numZ (s.drop z), by rw [h1, List.drop_drop], by omega⟩
theorem Sfx.refl (s : List UInt8) : Sfx s s := ⟨0, rfl, Nat.zero_le _⟩
theorem rCs_sfx : ∀ (n : Nat) {s l r : List UInt8} {cs : List Cs}, Sfx s l → rCs n l = some (cs, r) → Sfx s r
  | 0, s, l, r, cs, h, e => by
    simp [rCs] at e
    obtain ⟨_, rfl⟩ := e
    exact h
  | n + 1, s, l, r, cs, h, e => by
    unfold rCs at e
    split at e
    · simp at e
    · split at e
      · simp at e
      · split at e
        · simp at e
        · cases hr : rCs n (numR (numR (numR l))) with
          | none => rw [hr] at e; simp at e
          | some x =>
            obtain ⟨cs', r'⟩ := x
            rw [hr] at e
            simp at e
            obtain ⟨_, rfl⟩ := e
            exact rCs_sfx n h.num.num.num hr
theorem rFin_sfx {s l l' : List UInt8} {o o' : Opn} {p : Int} (h : Sfx s l) (e : rFin o l p = some (o', l')) : Sfx s l' := by
  unfold rFin at e
  split at e
  · cases e; exact h
  · cases e
theorem rDec_drop {s l : List UInt8} {o : Opn} {p : Int} (h : rDec s p = some (o, l)) : ∃ z, l = s.drop z ∧ z ≤ s.length := by
  have hA : Sfx s (rdA s p).2 := by
    unfold rdA; split
    · exact (Sfx.refl s).num.num
    · exact (Sfx.refl s).num
  have hB : Sfx s (rdB s p).2 := by
    unfold rdB; split
    · exact hA.num
    · exact hA
  unfold rDec at h
  split at h
  · cases h
  · split at h
    · unfold rDec6 at h
      split at h
      · cases h
      · split at h
        · cases h
        · cases hr : rCs (numV (numR (rdB s p).2)).toNat (numR (numR (rdB s p).2)) with
          | none => rw [hr] at h; simp at h
          | some x =>
            obtain ⟨cs, r⟩ := x
            rw [hr] at h
            exact rFin_sfx (rCs_sfx _ hB.num.num hr) h
    · exact rFin_sfx hB h
/-- What both Decodes say. -/
theorem dec_both (s : List UInt8) (p : Int) : rdO s p = decO s p ∧ rdF s p = decOF s p ∧ (decOF s p ≠ 0 → decOR s p = []) ∧ (decOF s p = 0 → decOR s p = s.drop (rdZ s p) ∧ rdZ s p ≤ s.length) := by
  by_cases hp : p < 1 ∨ 8 < p
  · have e : decOk s p = false := by unfold decOk; rw [decide_eq_false (by omega)]; rfl
    have f : rdX s p = none := by unfold rdX; rw [if_pos hp]
    have g : decOF s p = 1 := by unfold decOF; rw [if_pos hp]
    refine ⟨by simp [rdO, decO, e, f], by rw [g]; unfold rdF; rw [if_pos hp], fun _ => by simp [decOR, e], fun h => by rw [g] at h; omega⟩
  · obtain ⟨q1, q2⟩ := dec_eq s p (by omega)
    have f : rdX s p = rDec s p := by unfold rdX; rw [if_neg hp]
    cases hr : rDec s p with
    | none =>
      have e := q2 hr
      have g : decOF s p = 4 := by unfold decOF; rw [if_neg hp, e]; rfl
      rw [hr] at f
      exact ⟨by simp [rdO, decO, e, f], by rw [g]; unfold rdF; rw [if_neg hp, f]; rfl, fun _ => by simp [decOR, e], fun h => by rw [g] at h; omega⟩
    | some x =>
      obtain ⟨o, l⟩ := x
      obtain ⟨e, d⟩ := q1 o l hr
      have g : decOF s p = 0 := by unfold decOF; rw [if_neg hp, e]; rfl
      rw [hr] at f
      obtain ⟨z, hz, hle⟩ := rDec_drop hr
      refine ⟨by simp [rdO, decO, e, f, d], by rw [g]; unfold rdF; rw [if_neg hp, f]; rfl, fun h => absurd g h, fun _ => ?_⟩
      have hZ : rdZ s p = z := by
        simp only [rdZ, f]
        rw [hz, List.length_drop]; omega
      rw [hZ]
      exact ⟨by simp [decOR, e, d, hz], hle⟩

set_option maxHeartbeats 2000000 in
theorem ddecodes_law (s : List UInt8) (p : Int) (w : World) (hl : s.length ≤ 140737488351232) : Calls Try.prog 4 #[bs s, .int .i64 p] w (LawPost w) := by
  have P1 : ∀ w : World, Hid (Calls Try.prog 11 #[bs s, .int .i64 p] w fun r w' => ∃ v, r = .returned (.tuple #[opV v (decO s p), bs (decOR s p), .int .i64 (decOF s p)]) ∧ CssOf w' v (decO s p).cs ∧ Below w.heap.size w w') := fun w => Lib.hid (ddecode_any s p w hl)
  have P2 : ∀ w : World, Hid (Calls Try.prog 12 #[bs s, .int .i64 p] w fun r w' => ∃ v, r = .returned (.tuple #[.agg (gotC v (rdO s p) (rdZ s p)), .int .i64 (rdF s p)]) ∧ CssOf w' v (rdO s p).cs ∧ Below w.heap.size w w') := fun w => Lib.hid (rddecode_any s p w hl)
  obtain ⟨q1, q2, q3, q4⟩ := dec_both s p
  rw [q1, q2] at P2
  have OL : (decO s p).cs.length ≤ 1000000 := by
    unfold decO
    split
    · rename_i h
      unfold decOk at h
      simp only [Bool.and_eq_true, beq_iff_eq] at h
      have := (chkO_zero h.2.2).2.2.1
      omega
    · show 0 ≤ 1000000; omega
  have P3 := fun v v' w h h' => Lib.hid (op_any (decO s p) (decO s p) v v' w h h' OL)
  rw [show decide (decO s p = decO s p) = true from decide_eq_true rfl] at P3
  obtain ⟨f, hf⟩ : ∃ f, decOF s p = f := ⟨_, rfl⟩
  obtain ⟨l, hl2⟩ : ∃ f, decOR s p = f := ⟨_, rfl⟩
  obtain ⟨z, hz⟩ : ∃ f, rdZ s p = f := ⟨_, rfl⟩
  obtain ⟨o, ho⟩ : ∃ f, decO s p = f := ⟨_, rfl⟩
  rw [hf, hl2, ho] at P1
  rw [hf, hz, ho] at P2
  rw [ho] at P3
  rw [hf, hl2] at q3 q4
  rw [hz] at q4
  have Q3 := Lib.hid q3
  have Q4 := Lib.hid q4
  obtain ⟨k, a, b, cs, df⟩ := o
  unfold opV at P1 P3
  unfold gotC at P2
  dsimp only at P1 P2 P3
  clear q1 q2 q3 q4 hf hl2 hz ho OL
  have key : ∀ (w2 w1 : World) (ao bo : Option Addr) (n ca cb : Nat), True := fun _ _ _ _ _ _ _ => trivial
  clear key
  by_cases h0 : f = 0
  · subst h0
    obtain ⟨e1, e2⟩ := Q4.out rfl
    subst e1
    clear Q3 Q4
    have hz0 : (z : Int) ≤ s.length := by omega
    go_enter Try.func4, Try.ntmps4
    go_wp2_with fail
    refine ((P1 _).out).mono ?_
    rintro r w1 ⟨v1, rfl, hc1, hB1⟩
    obtain ⟨ao, ca, rfl⟩ := hc1.shape
    have B1 := Lib.hid hB1
    have C1 := Lib.hid hc1
    obtain ⟨n, hn⟩ : ∃ n, cs.length = n := ⟨_, rfl⟩
    rw [hn] at C1 ⊢
    clear hB1 hc1
    go_wp2_with fail
    refine ((P2 _).out).mono ?_
    rintro r w2 ⟨v2, rfl, hc2, hB2⟩
    obtain ⟨bo, cb, rfl⟩ := hc2.shape
    have B2 := Lib.hid (below_next (B1.out.alloc B1.out.size _) hB2)
    have C2 := Lib.hid hc2
    rw [hn] at C2 ⊢
    have A2 := (hB2.block w1.heap.size (by simp)).trans (heap_alloc_new w1 (.cells #[.int .i64 k, .int .i64 a, .int .i64 b, .slice ao n ca, .bool df] 24))
    have C12 := Lib.hid ((C1.out.below (Nat.le_refl _) (below1 w1 (.cells #[.int .i64 k, .int .i64 a, .int .i64 b, .slice ao n ca, .bool df] 24))).below (Nat.le_refl _) hB2)
    have S2 := lt_of_heap A2
    obtain ⟨y0, y1, y2, y3, y4⟩ := five_cells A2
    clear hB2 hc2 A2
    go_wp2_with fail
    refine ((P3 _ _ _ (C12.out.below (Nat.le_refl _) (below1 w2 _)) (C2.out.below (Nat.le_refl _) (below1 w2 (.cells #[.int .i64 k, .int .i64 a, .int .i64 b, .slice bo n cb, .bool df, .int .i64 z] 35)))).out).mono ?_
    rintro r w3 ⟨rfl, hB3⟩
    have B3 := Lib.hid (below_next (B2.out.alloc B2.out.size _) hB3)
    have A3 := (hB3.block w2.heap.size (by simp)).trans (heap_alloc_new w2 (.cells #[.int .i64 k, .int .i64 a, .int .i64 b, .slice bo n cb, .bool df, .int .i64 z] 35))
    obtain ⟨x0, x1, x2, x3, x4, x5, xf⟩ := six_cells A3
    clear hB3 A3 y0 y1 y2 y3 y4 S2
    go_wp2_with fail
    refine (send_any _).mono ?_
    rintro r w4 ⟨rfl, hB4⟩
    have B4 := Lib.hid (below_next B3.out hB4)
    clear hB4
    go_wp2_with fail
    go_ret
    exact ⟨rfl, B4.out⟩
  · have e1 := Q3.out h0
    subst e1
    have h0' : (f != 0) = true := by simpa using h0
    clear Q3 Q4 h0
    go_enter Try.func4, Try.ntmps4
    go_wp2_with fail
    refine ((P1 _).out).mono ?_
    rintro r w1 ⟨v1, rfl, hc1, hB1⟩
    obtain ⟨ao, ca, rfl⟩ := hc1.shape
    have B1 := Lib.hid hB1
    have C1 := Lib.hid hc1
    obtain ⟨n, hn⟩ : ∃ n, cs.length = n := ⟨_, rfl⟩
    rw [hn] at C1 ⊢
    clear hB1 hc1
    go_wp2_with fail
    refine ((P2 _).out).mono ?_
    rintro r w2 ⟨v2, rfl, hc2, hB2⟩
    obtain ⟨bo, cb, rfl⟩ := hc2.shape
    have B2 := Lib.hid (below_next (B1.out.alloc B1.out.size _) hB2)
    have C2 := Lib.hid hc2
    rw [hn] at C2 ⊢
    have A2 := (hB2.block w1.heap.size (by simp)).trans (heap_alloc_new w1 (.cells #[.int .i64 k, .int .i64 a, .int .i64 b, .slice ao n ca, .bool df] 24))
    have C12 := Lib.hid ((C1.out.below (Nat.le_refl _) (below1 w1 (.cells #[.int .i64 k, .int .i64 a, .int .i64 b, .slice ao n ca, .bool df] 24))).below (Nat.le_refl _) hB2)
    have S2 := lt_of_heap A2
    obtain ⟨y0, y1, y2, y3, y4⟩ := five_cells A2
    clear hB2 hc2 A2
    go_wp2_with fail
    refine ((P3 _ _ _ (C12.out.below (Nat.le_refl _) (below1 w2 _)) (C2.out.below (Nat.le_refl _) (below1 w2 (.cells #[.int .i64 k, .int .i64 a, .int .i64 b, .slice bo n cb, .bool df, .int .i64 z] 35)))).out).mono ?_
    rintro r w3 ⟨rfl, hB3⟩
    have B3 := Lib.hid (below_next (B2.out.alloc B2.out.size _) hB3)
    clear hB3 y0 y1 y2 y3 y4 S2
    go_wp2_with fail
    refine (send_any _).mono ?_
    rintro r w4 ⟨rfl, hB4⟩
    have B4 := Lib.hid (below_next B3.out hB4)
    clear hB4
    go_wp2_with fail
    go_ret
    exact ⟨rfl, B4.out⟩
end Go.Proofs.Ytobgdchlblhaiaa

