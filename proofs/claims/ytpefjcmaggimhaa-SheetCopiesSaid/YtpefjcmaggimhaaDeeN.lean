
/-
  Layer 4, in plain words: the program's Decode is the reference's; there and back.
-/
import Derived.Test.YtpefjcmaggimhaaDeeL
import Derived.Test.YtpefjcmaggimhaaDeeH
namespace Go.Proofs.Ytpefjcmaggimhaa
set_option linter.unusedVariables false
set_option linter.unusedSimpArgs false

theorem next_ok {l : List UInt8} (h : takE l = 0) : Tk.next ⟨l, false⟩ = ⟨takR l, false⟩ := by unfold Tk.next; rw [if_pos h]
theorem next_bad {l : List UInt8} {b : Bool} (h : takE l ≠ 0) : (Tk.next ⟨l, b⟩).bad = true := by unfold Tk.next; rw [if_neg h]
theorem next_stick {t : Tk} (h : t.bad = true) : t.next.bad = true := by unfold Tk.next; split <;> simp [h]
theorem nextT_stick {t : Tk} (h : t.bad = true) : t.nextT.bad = true := by unfold Tk.nextT; simp [next_stick h]
theorem nextT_ok {l : List UInt8} (h : takE l = 0) (h1 : ¬ 1 < takV l) : Tk.nextT ⟨l, false⟩ = ⟨takR l, false⟩ := by
  unfold Tk.nextT
  rw [next_ok h]
  simp; omega
theorem nextT_bad1 {l : List UInt8} {b : Bool} (h : takE l ≠ 0) : (Tk.nextT ⟨l, b⟩).bad = true := by unfold Tk.nextT; simp [next_bad h]
theorem nextT_bad2 {l : List UInt8} {b : Bool} (h : 1 < takV l) : (Tk.nextT ⟨l, b⟩).bad = true := by unfold Tk.nextT; simp [h]
theorem num_ok {l : List UInt8} (h : takE l = 0) : numV l = takV l ∧ numR l = takR l := by unfold numV numR; rw [if_pos h, if_pos h]; exact ⟨rfl, rfl⟩
theorem num_bad {l : List UInt8} (h : takE l ≠ 0) : numV l = -1 := by unfold numV; rw [if_neg h]
theorem dL_stick {f : Nat} {c : Int} {t : Tk} (h : t.bad = true) : dL f c t = ([], t) := dL_stop (by simp [h])

theorem rCs_some : ∀ (n f : Nat) (l : List UInt8) (cs : List Cs) (r : List UInt8), n ≤ f → rCs n l = some (cs, r) → dL f n ⟨l, false⟩ = (cs, ⟨r, false⟩)
  | 0, f, l, cs, r, hf, h => by
    simp [rCs] at h
    obtain ⟨rfl, rfl⟩ := h
    exact dL_stop (by simp)
  | n + 1, 0, l, cs, r, hf, h => by omega
  | n + 1, f + 1, l, cs, r, hf, h => by
    unfold rCs at h
    split at h
    · simp at h
    · rename_i h1
      split at h
      · simp at h
      · rename_i h2
        split at h
        · simp at h
        · rename_i h3
          have t1 : takE l = 0 := by
            by_cases e : takE l = 0
            · exact e
            · have := num_bad e; omega
          obtain ⟨v1, r1⟩ := num_ok t1
          rw [r1] at h2 h3 h
          rw [v1] at h1 h
          have t2 : takE (takR l) = 0 := by
            by_cases e : takE (takR l) = 0
            · exact e
            · have := num_bad e; omega
          obtain ⟨v2, r2⟩ := num_ok t2
          rw [r2] at h3 h
          rw [v2] at h
          have t3 : takE (takR (takR l)) = 0 := by
            by_cases e : takE (takR (takR l)) = 0
            · exact e
            · have := num_bad e; omega
          obtain ⟨v3, r3⟩ := num_ok t3
          rw [r3, v3] at h
          cases hr : rCs n (takR (takR (takR l))) with
          | none => rw [hr] at h; simp at h
          | some x =>
            obtain ⟨cs', r'⟩ := x
            rw [hr] at h
            simp at h
            obtain ⟨rfl, rfl⟩ := h
            have ih := rCs_some n f _ _ _ (by omega) hr
            rw [dL_go (by omega) rfl, nextT_ok t1 (by omega), next_ok t2, next_ok t3, show ((n + 1 : Nat) : Int) - 1 = n by omega, ih]
            rfl
theorem rCs_none : ∀ (n f : Nat) (l : List UInt8), n ≤ f → rCs n l = none → (dL f n ⟨l, false⟩).2.bad = true
  | 0, f, l, hf, h => by simp [rCs] at h
  | n + 1, 0, l, hf, h => by omega
  | n + 1, f + 1, l, hf, h => by
    rw [dL_go (by omega) rfl]
    show (dL f (((n + 1 : Nat) : Int) - 1) _).2.bad = true
    rw [show ((n + 1 : Nat) : Int) - 1 = n by omega]
    by_cases t1 : takE l = 0
    · obtain ⟨v1, r1⟩ := num_ok t1
      by_cases h1 : 1 < takV l
      · rw [dL_stick (next_stick (next_stick (nextT_bad2 h1)))]; exact next_stick (next_stick (nextT_bad2 h1))
      · rw [nextT_ok t1 h1]
        by_cases t2 : takE (takR l) = 0
        · obtain ⟨v2, r2⟩ := num_ok t2
          rw [next_ok t2]
          by_cases t3 : takE (takR (takR l)) = 0
          · obtain ⟨v3, r3⟩ := num_ok t3
            rw [next_ok t3]
            have b1 := takV_bd l
            have b2 := takV_bd (takR l)
            have b3 := takV_bd (takR (takR l))
            unfold rCs at h
            rw [if_neg (by omega), r1, if_neg (by omega), r2, if_neg (by omega), r3] at h
            cases hr : rCs n (takR (takR (takR l))) with
            | none => exact rCs_none n f _ (by omega) hr
            | some x => rw [hr] at h; simp at h
          · rw [dL_stick (next_bad t3)]; exact next_bad t3
        · rw [dL_stick (next_stick (next_bad t2))]; exact next_stick (next_bad t2)
    · rw [dL_stick (next_stick (next_stick (nextT_bad1 t1)))]; exact next_stick (next_stick (nextT_bad1 t1))
theorem dL_full : ∀ (f : Nat) (c : Int) (t : Tk), (f : Int) ≤ c → (dL f c t).2.bad = false → (dL f c t).1.length = f
  | 0, c, t, _, _ => rfl
  | f + 1, c, t, hc, hb => by
    by_cases h : t.bad = false
    · rw [dL_go (by omega) h] at hb ⊢
      have := dL_full f (c - 1) _ (by omega) hb
      simp [this]
    · rw [dL_stop (by simp [h])] at hb
      exact absurd hb h

theorem chkO_a {k b p : Int} {cs : List Cs} {df : Bool} : chkO ⟨k, -1, b, cs, df⟩ p ≠ 0 := by
  intro h
  have := (chkO_zero h).2.2.2
  simp [okO, fitB, belB] at this
theorem chkO_b {k a p : Int} {cs : List Cs} {df : Bool} : chkO ⟨k, a, -1, cs, df⟩ p ≠ 0 := by
  intro h
  have := (chkO_zero h).2.2.2
  simp [okO, fitB, belB] at this

/-- What the program's Decode says, by the reference's. -/
def DecEq (s : List UInt8) (p : Int) : Prop :=
  (∀ o l, rDec s p = some (o, l) → decOk s p = true ∧ dOp s p = (o, ⟨l, false⟩)) ∧ (rDec s p = none → decOk s p = false)
theorem decOk_bad {s : List UInt8} {p : Int} (h : (dOp s p).2.bad = true) : decOk s p = false := by unfold decOk; simp [h]
theorem dA_stick {s : List UInt8} {p : Int} (h : (dT1 s).bad = true) : (dA s p).2.bad = true := by
  unfold dA; split
  · exact next_stick h
  · exact h
theorem dB_stick {s : List UInt8} {p : Int} (h : (dA s p).2.bad = true) : (dB s p).2.bad = true := by
  unfold dB; split
  · exact next_stick h
  · exact h
theorem dOp_stick {s : List UInt8} {p : Int} (h : (dB s p).2.bad = true) : (dOp s p).2.bad = true := by
  unfold dOp; split
  · dsimp only
    rw [dL_stick (next_stick (nextT_stick h))]
    exact next_stick (nextT_stick h)
  · exact h
theorem dOp_k (s : List UInt8) (p : Int) : (dOp s p).1.k = takV s := by unfold dOp; split <;> rfl
theorem decEq_none {s : List UInt8} {p : Int} (h1 : rDec s p = none) (h2 : decOk s p = false) : DecEq s p := ⟨fun o l h => (by rw [h1] at h; cases h), fun _ => h2⟩
theorem decEq_fin {s : List UInt8} {p : Int} {o : Opn} {l : List UInt8} (hp : 1 ≤ p ∧ p ≤ 8) (h1 : rDec s p = rFin o l p) (h2 : dOp s p = (o, ⟨l, false⟩)) : DecEq s p := by
  have e : decOk s p = (chkO o p == 0) := by unfold decOk; rw [h2, decide_eq_true hp]; rfl
  unfold rFin at h1
  by_cases h : chkO o p = 0
  · rw [if_pos h] at h1
    refine ⟨fun o' l' h' => ?_, fun hn => by rw [h1] at hn; cases hn⟩
    rw [h1] at h'
    cases h'
    exact ⟨by rw [e, h]; rfl, h2⟩
  · rw [if_neg h] at h1
    exact decEq_none h1 (by rw [e]; simpa using h)
theorem dec_eq (s : List UInt8) (p : Int) (hp : 1 ≤ p ∧ p ≤ 8) : DecEq s p := by
  by_cases t0 : takE s = 0
  · obtain ⟨v0, r0⟩ := num_ok t0
    have T1 : dT1 s = ⟨takR s, false⟩ := next_ok t0
    by_cases hk : takV s < 1 ∨ 9 < takV s
    · refine decEq_none (by unfold rDec; rw [v0, if_pos hk]) ?_
      have hc : chkO (dOp s p).1 p ≠ 0 := fun h => by
        have := (chkO_zero h).2.1
        rw [dOp_k] at this
        omega
      unfold decOk
      simp [hc]
    · by_cases h6 : takV s = 6
      · have lA : limA (takV s) p = 0 := by rw [h6]; rfl
        have lB : limB (takV s) = 0 := by rw [h6]; rfl
        have A : dA s p = (0, ⟨takR s, false⟩) := by unfold dA; rw [lA, if_neg (by decide), T1]
        have B : dB s p = (0, ⟨takR s, false⟩) := by unfold dB; rw [lB, if_neg (by decide), A]
        have A' : rdA s p = (0, takR s) := by unfold rdA; rw [v0, lA, if_neg (by decide), r0]
        have B' : rdB s p = (0, takR s) := by unfold rdB; rw [v0, lB, if_neg (by simp), A']
        have R : rDec s p = rDec6 6 0 0 (takR s) p := by unfold rDec; rw [v0, if_neg hk, if_pos h6, A', B', h6]
        have O : dOp s p = (⟨6, 0, 0, (dL 5 (Tk.nextT ⟨takR s, false⟩).val (Tk.nextT ⟨takR s, false⟩).next).1, takV (takR s) == 1⟩, (dL 5 (Tk.nextT ⟨takR s, false⟩).val (Tk.nextT ⟨takR s, false⟩).next).2) := by
          unfold dOp; rw [if_pos h6, A, B, h6]; rfl
        generalize takR s = l at R O
        by_cases t1 : takE l = 0
        · obtain ⟨v1, r1⟩ := num_ok t1
          have b1 := takV_bd l
          by_cases h1 : 1 < takV l
          · refine decEq_none (by rw [R]; unfold rDec6; rw [v1, if_pos (.inr h1)]) (decOk_bad ?_)
            rw [O]; dsimp only
            rw [dL_stick (next_stick (nextT_bad2 h1))]
            exact next_stick (nextT_bad2 h1)
          · rw [nextT_ok t1 h1] at O
            by_cases t2 : takE (takR l) = 0
            · obtain ⟨v2, r2⟩ := num_ok t2
              have b2 := takV_bd (takR l)
              rw [next_ok t2] at O
              by_cases h4 : 4 < takV (takR l)
              · refine decEq_none (by rw [R]; unfold rDec6; rw [v1, if_neg (by omega), r1, v2, if_pos (.inr h4)]) ?_
                cases hb : (dOp s p).2.bad with
                | true => exact decOk_bad hb
                | false =>
                  have hb' := hb
                  rw [O] at hb'
                  have hlen := dL_full 5 (takV (takR l)) ⟨takR (takR l), false⟩ (by omega) hb'
                  have hc : chkO (dOp s p).1 p ≠ 0 := fun h => by
                    have := (chkO_zero h).2.2.1
                    rw [O] at this
                    dsimp only [Tk.val] at this
                    omega
                  unfold decOk
                  simp [hc]
              · obtain ⟨n, hn⟩ := Int.eq_ofNat_of_zero_le b2.1
                have R2 : rDec s p = (rCs n (takR (takR l))).bind fun x => rFin ⟨6, 0, 0, x.1, takV l == 1⟩ x.2 p := by
                  rw [R]; unfold rDec6; rw [v1, if_neg (by omega), r1, v2, if_neg (by omega), r2, hn]; rfl
                rw [show (Tk.mk (takR l) false).val = (n : Int) from hn] at O
                cases hr : rCs n (takR (takR l)) with
                | none =>
                  refine decEq_none (by rw [R2, hr]; rfl) (decOk_bad ?_)
                  rw [O]
                  exact rCs_none n 5 _ (by omega) hr
                | some x =>
                  obtain ⟨cs, r⟩ := x
                  rw [hr] at R2
                  rw [rCs_some n 5 _ _ _ (by omega) hr] at O
                  exact decEq_fin hp R2 O
            · have e := num_bad t2
              refine decEq_none (by rw [R]; unfold rDec6; rw [v1, if_neg (by omega), r1, if_pos (.inl (by omega))]) (decOk_bad ?_)
              rw [O]; dsimp only
              rw [dL_stick (next_bad t2)]
              exact next_bad t2
        · have e := num_bad t1
          refine decEq_none (by rw [R]; unfold rDec6; rw [if_pos (.inl (by omega))]) (decOk_bad ?_)
          rw [O]; dsimp only
          rw [dL_stick (next_stick (nextT_bad1 t1))]
          exact next_stick (nextT_bad1 t1)
      · have R : rDec s p = rFin ⟨takV s, (rdA s p).1, (rdB s p).1, [], false⟩ (rdB s p).2 p := by unfold rDec; rw [v0, if_neg hk, if_neg h6]
        have O : dOp s p = (⟨takV s, (dA s p).1, (dB s p).1, [], false⟩, (dB s p).2) := by unfold dOp; rw [if_neg h6]
        by_cases ha : 0 < limA (takV s) p
        · by_cases t1 : takE (takR s) = 0
          · obtain ⟨v1, r1⟩ := num_ok t1
            have b1 := takV_bd (takR s)
            have A : dA s p = (takV (takR s), ⟨takR (takR s), false⟩) := by unfold dA; rw [if_pos ha, T1, next_ok t1]; rfl
            have A' : rdA s p = (takV (takR s), takR (takR s)) := by unfold rdA; rw [v0, if_pos ha, r0, v1, r1]
            by_cases hb : 0 < limB (takV s)
            · by_cases t2 : takE (takR (takR s)) = 0
              · obtain ⟨v2, r2⟩ := num_ok t2
                have B : dB s p = (takV (takR (takR s)), ⟨takR (takR (takR s)), false⟩) := by unfold dB; rw [if_pos hb, A]; dsimp only; rw [next_ok t2]; rfl
                have B' : rdB s p = (takV (takR (takR s)), takR (takR (takR s))) := by unfold rdB; rw [A', v0, if_pos ⟨hb, b1.1⟩]; dsimp only; rw [v2, r2]
                rw [A', B'] at R
                rw [A, B] at O
                exact decEq_fin hp R O
              · have e := num_bad t2
                have B' : (rdB s p).1 = -1 := by unfold rdB; rw [A', v0, if_pos ⟨hb, b1.1⟩]; exact e
                refine decEq_none (by rw [R, B']; unfold rFin; rw [if_neg chkO_b]) (decOk_bad (dOp_stick ?_))
                unfold dB
                rw [if_pos hb, A]
                exact next_bad t2
            · have B : dB s p = (0, ⟨takR (takR s), false⟩) := by unfold dB; rw [if_neg hb, A]
              have B' : rdB s p = (0, takR (takR s)) := by unfold rdB; rw [A', v0, if_neg (fun h => hb h.1)]
              rw [A', B'] at R
              rw [A, B] at O
              exact decEq_fin hp R O
          · have e := num_bad t1
            have A' : (rdA s p).1 = -1 := by unfold rdA; rw [v0, if_pos ha, r0]; exact e
            refine decEq_none (by rw [R, A']; unfold rFin; rw [if_neg chkO_a]) (decOk_bad (dOp_stick (dB_stick ?_)))
            unfold dA
            rw [if_pos ha, T1]
            exact next_bad t1
        · have hb : ¬ 0 < limB (takV s) := fun h => ha (by
            unfold limB at h
            split at h
            · rename_i hk; rw [hk]; show (0 : Int) < 8; decide
            · split at h
              · rename_i hk; rw [hk]; show (0 : Int) < 8; decide
              · omega)
          have A : dA s p = (0, ⟨takR s, false⟩) := by unfold dA; rw [if_neg ha, T1]
          have B : dB s p = (0, ⟨takR s, false⟩) := by unfold dB; rw [if_neg hb, A]
          have A' : rdA s p = (0, takR s) := by unfold rdA; rw [v0, if_neg ha, r0]
          have B' : rdB s p = (0, takR s) := by unfold rdB; rw [A', v0, if_neg (fun h => hb h.1)]
          rw [A', B'] at R
          rw [A, B] at O
          exact decEq_fin hp R O
  · have e := num_bad t0
    refine decEq_none (by unfold rDec; rw [e, if_pos (.inl (by decide))]) (decOk_bad (dOp_stick (dB_stick (dA_stick (next_bad t0)))))
end Go.Proofs.Ytpefjcmaggimhaa

