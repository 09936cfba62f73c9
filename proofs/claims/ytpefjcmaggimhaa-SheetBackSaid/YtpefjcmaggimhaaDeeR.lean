
/-
  Layer 4, in plain words: there and back.
-/
import Derived.Test.YtpefjcmaggimhaaDeeN
namespace Go.Proofs.Ytpefjcmaggimhaa
set_option linter.unusedVariables false
set_option linter.unusedSimpArgs false

theorem flat_cons (a : Int) (l : List Int) : flat (a :: l) = putS a ++ flat l := by simp [flat]
theorem flat_app (l m : List Int) : flat (l ++ m) = flat l ++ flat m := by simp [flat, List.flatMap_append]
theorem nx_put {v : Int} (h0 : 0 ≤ v) (h1 : v ≤ 1000000) (r : List UInt8) : numV (putS v ++ r) = v ∧ numR (putS v ++ r) = r := by
  obtain ⟨n, rfl⟩ := Int.eq_ofNat_of_zero_le h0
  have hk : okN (n : Int) = true := by unfold okN; simp; omega
  have e : putS (n : Int) = enc n := by unfold putS; rw [if_pos hk]; rfl
  have t := tak_enc (n := n) (by unfold mostN; omega) r
  have hE : takE (enc n ++ r) = 0 := by unfold takE; rw [t]
  rw [e]
  unfold numV numR
  rw [if_pos hE, if_pos hE]
  refine ⟨by simp [takV, t], ?_⟩
  simp only [takR, t]
  rw [← length_enc n, List.drop_left]
theorem belB_iff {n m : Int} : belB n m = true ↔ 0 ≤ n ∧ n < m := by unfold belB; exact decide_eq_true_iff
theorem fitB_bd {n m : Int} (h : fitB n m = true) : 0 ≤ n ∧ (n < m ∨ n = 0) := by
  unfold fitB at h
  split at h
  · have := belB_iff.1 h; omega
  · have := belB_iff.1 h; omega
theorem bit_bd (b : Bool) : 0 ≤ bitI b ∧ bitI b ≤ 1 ∧ (bitI b == 1) = b := by cases b <;> decide
theorem rCs_flat : ∀ (cs : List Cs) (r : List UInt8), cs.all csB = true → rCs cs.length (flat (cs.flatMap csNums) ++ r) = some (cs, r)
  | [], r, _ => rfl
  | c :: cs, r, h => by
    obtain ⟨sd, ch, va⟩ := c
    rw [List.all_cons, Bool.and_eq_true] at h
    obtain ⟨hc, hs⟩ := h
    unfold csB at hc
    simp only [Bool.and_eq_true] at hc
    obtain ⟨⟨h1, h2⟩, _⟩ := hc
    have b1 := belB_iff.1 h1
    have b2 := belB_iff.1 h2
    obtain ⟨s0, s1, s2⟩ := bit_bd sd
    have e : flat ((⟨sd, ch, va⟩ :: cs : List Cs).flatMap csNums) ++ r = putS (bitI sd) ++ (putS ch ++ (putS va ++ (flat (cs.flatMap csNums) ++ r))) := by
      simp only [List.flatMap_cons, csNums, List.cons_append, List.nil_append, flat_cons, List.append_assoc]
    rw [e]
    obtain ⟨p1, q1⟩ := nx_put s0 (by omega) (putS ch ++ (putS va ++ (flat (cs.flatMap csNums) ++ r)))
    obtain ⟨p2, q2⟩ := nx_put b1.1 (by omega) (putS va ++ (flat (cs.flatMap csNums) ++ r))
    obtain ⟨p3, q3⟩ := nx_put b2.1 (by omega) (flat (cs.flatMap csNums) ++ r)
    show rCs (cs.length + 1) _ = _
    unfold rCs
    rw [q1, q2, q3, p1, p2, p3, if_neg (by omega), if_neg (by omega), if_neg (by omega), rCs_flat cs r hs, s2]
    rfl
theorem rDec_enc {o : Opn} {p : Int} (h : chkO o p = 0) (r : List UInt8) : rDec (flat (numsO o p) ++ r) p = some (o, r) := by
  obtain ⟨⟨p1, p8⟩, ⟨k1, k9⟩, hl, hok⟩ := chkO_zero h
  obtain ⟨k, a, b, cs, df⟩ := o
  dsimp only at k1 k9 hl
  unfold okO at hok
  simp only [Bool.and_eq_true] at hok
  obtain ⟨⟨⟨fa, fb⟩, f3⟩, f4⟩ := hok
  have ba := fitB_bd fa
  have bb := fitB_bd fb
  have LA : limA k p ≤ 8 := by unfold limA; split <;> (try split) <;> omega
  have LB : limB k ≤ 100 := by unfold limB; split <;> (try split) <;> omega
  by_cases h6 : k = 6
  · subst h6
    have lA : limA 6 p = 0 := rfl
    have lB : limB 6 = 0 := rfl
    have a0 : a = 0 := by rw [lA] at ba; omega
    have b0 : b = 0 := by rw [lB] at bb; omega
    subst a0; subst b0
    obtain ⟨s0, s1, s2⟩ := bit_bd df
    have e : flat (numsO ⟨6, 0, 0, cs, df⟩ p) ++ r = putS 6 ++ (putS (bitI df) ++ (putS (cs.length : Int) ++ (flat (cs.flatMap csNums) ++ r))) := by
      unfold numsO
      rw [if_pos rfl]
      simp only [List.cons_append, List.nil_append, flat_cons, List.append_assoc]
    rw [e]
    obtain ⟨v1, q1⟩ := nx_put (v := 6) (by omega) (by omega) (putS (bitI df) ++ (putS (cs.length : Int) ++ (flat (cs.flatMap csNums) ++ r)))
    obtain ⟨v2, q2⟩ := nx_put s0 (by omega) (putS (cs.length : Int) ++ (flat (cs.flatMap csNums) ++ r))
    obtain ⟨v3, q3⟩ := nx_put (v := (cs.length : Int)) (by omega) (by omega) (flat (cs.flatMap csNums) ++ r)
    generalize putS 6 ++ (putS (bitI df) ++ (putS (cs.length : Int) ++ (flat (cs.flatMap csNums) ++ r))) = s at v1 q1 ⊢
    have A : rdA s p = (0, putS (bitI df) ++ (putS (cs.length : Int) ++ (flat (cs.flatMap csNums) ++ r))) := by unfold rdA; rw [v1, lA, if_neg (by decide), q1]
    have B : rdB s p = (0, putS (bitI df) ++ (putS (cs.length : Int) ++ (flat (cs.flatMap csNums) ++ r))) := by unfold rdB; rw [v1, lB, if_neg (by simp), A]
    unfold rDec
    rw [v1, if_neg (by decide), if_pos rfl, A, B]
    dsimp only
    unfold rDec6
    rw [v2, q2, v3, q3, if_neg (by omega), if_neg (by omega), Int.toNat_natCast, rCs_flat cs r f4, s2]
    show rFin ⟨6, 0, 0, cs, df⟩ r p = _
    unfold rFin
    rw [if_pos h]
  · have f5 : cs = [] ∧ df = false := by
      have h7 : (k == 6) = false := by simpa using h6
      rw [h7] at f3
      simp at f3
      exact ⟨by simpa using f3.1, f3.2⟩
    obtain ⟨rfl, rfl⟩ := f5
    by_cases ha : 0 < limA k p
    · by_cases hb : 0 < limB k
      · have e : flat (numsO ⟨k, a, b, [], false⟩ p) ++ r = putS k ++ (putS a ++ (putS b ++ r)) := by
          unfold numsO
          rw [if_neg h6, if_pos ha, if_pos hb]
          simp [flat]
        rw [e]
        obtain ⟨v1, q1⟩ := nx_put (v := k) (by omega) (by omega) (putS a ++ (putS b ++ r))
        obtain ⟨v2, q2⟩ := nx_put (v := a) ba.1 (by omega) (putS b ++ r)
        obtain ⟨v3, q3⟩ := nx_put (v := b) bb.1 (by omega) r
        generalize putS k ++ (putS a ++ (putS b ++ r)) = s at v1 q1 ⊢
        have A : rdA s p = (a, putS b ++ r) := by unfold rdA; rw [v1, if_pos ha, q1, v2, q2]
        have B : rdB s p = (b, r) := by unfold rdB; rw [v1, A, if_pos ⟨hb, ba.1⟩]; dsimp only; rw [v3, q3]
        unfold rDec
        rw [v1, if_neg (by omega), if_neg h6, A, B]
        unfold rFin
        rw [if_pos h]
      · have b0 : b = 0 := by omega
        subst b0
        have e : flat (numsO ⟨k, a, 0, [], false⟩ p) ++ r = putS k ++ (putS a ++ r) := by
          unfold numsO
          rw [if_neg h6, if_pos ha, if_neg hb]
          simp [flat]
        rw [e]
        obtain ⟨v1, q1⟩ := nx_put (v := k) (by omega) (by omega) (putS a ++ r)
        obtain ⟨v2, q2⟩ := nx_put (v := a) ba.1 (by omega) r
        generalize putS k ++ (putS a ++ r) = s at v1 q1 ⊢
        have A : rdA s p = (a, r) := by unfold rdA; rw [v1, if_pos ha, q1, v2, q2]
        have B : rdB s p = (0, r) := by unfold rdB; rw [v1, A, if_neg (fun h => hb h.1)]
        unfold rDec
        rw [v1, if_neg (by omega), if_neg h6, A, B]
        unfold rFin
        rw [if_pos h]
    · have a0 : a = 0 := by omega
      subst a0
      have hb : ¬ 0 < limB k := fun h => ha (by
        unfold limB at h
        split at h
        · rename_i hk; rw [hk]; show (0 : Int) < 8; decide
        · split at h
          · rename_i hk; rw [hk]; show (0 : Int) < 8; decide
          · omega)
      have b0 : b = 0 := by omega
      subst b0
      have e : flat (numsO ⟨k, 0, 0, [], false⟩ p) ++ r = putS k ++ r := by
        unfold numsO
        rw [if_neg h6, if_neg ha, if_neg hb]
        simp [flat]
      rw [e]
      obtain ⟨v1, q1⟩ := nx_put (v := k) (by omega) (by omega) r
      generalize putS k ++ r = s at v1 q1 ⊢
      have A : rdA s p = (0, r) := by unfold rdA; rw [v1, if_neg ha, q1]
      have B : rdB s p = (0, r) := by unfold rdB; rw [v1, A, if_neg (fun h => hb h.1)]
      unfold rDec
      rw [v1, if_neg (by omega), if_neg h6, A, B]
      unfold rFin
      rw [if_pos h]

theorem num_back {l : List UInt8} (h : 0 ≤ numV l) : putS (numV l) ++ numR l = l := by
  have hE : takE l = 0 := by
    by_cases e : takE l = 0
    · exact e
    · have := num_bad e; omega
  obtain ⟨v, r⟩ := num_ok hE
  rw [v, r]
  unfold takE at hE
  cases ht : tak l with
  | none => rw [ht] at hE; simp at hE
  | some x =>
    obtain ⟨n, z⟩ := x
    obtain ⟨h1, h2, h3, h4⟩ := tak_some ht
    have hk : okN (n : Int) = true := by unfold okN; unfold mostN at h1; simp; omega
    have e : putS (n : Int) = enc n := by unfold putS; rw [if_pos hk]; rfl
    simp only [takV, takR, ht]
    rw [e, ← h4]
    exact List.take_append_drop z l
theorem bit_eq {x : Int} (h0 : 0 ≤ x) (h1 : x ≤ 1) : bitI (x == 1) = x := by
  have : x = 0 ∨ x = 1 := by omega
  rcases this with rfl | rfl <;> decide
theorem rCs_back : ∀ (n : Nat) (l : List UInt8) (cs : List Cs) (r : List UInt8), rCs n l = some (cs, r) → flat (cs.flatMap csNums) ++ r = l ∧ cs.length = n
  | 0, l, cs, r, h => by
    simp [rCs] at h
    obtain ⟨rfl, rfl⟩ := h
    exact ⟨rfl, rfl⟩
  | n + 1, l, cs, r, h => by
    unfold rCs at h
    split at h
    · simp at h
    · rename_i h1
      split at h
      · simp at h
      · rename_i h2
        split at h
        · simp at h
        · rename_i h3
          cases hr : rCs n (numR (numR (numR l))) with
          | none => rw [hr] at h; simp at h
          | some x =>
            obtain ⟨cs', r'⟩ := x
            rw [hr] at h
            simp at h
            obtain ⟨rfl, rfl⟩ := h
            obtain ⟨i1, i2⟩ := rCs_back n _ _ _ hr
            refine ⟨?_, by simp [i2]⟩
            simp only [List.flatMap_cons, csNums, List.cons_append, List.nil_append, flat_cons, List.append_assoc]
            rw [i1, bit_eq (by omega) (by omega), num_back (by omega), num_back (by omega), num_back (by omega)]
theorem rFin_back {o o' : Opn} {l l' : List UInt8} {p : Int} (h : rFin o l p = some (o', l')) : chkO o p = 0 ∧ o' = o ∧ l' = l := by
  unfold rFin at h
  split at h
  · rename_i hc
    cases h
    exact ⟨hc, rfl, rfl⟩
  · cases h
theorem rDec_back {s l : List UInt8} {o : Opn} {p : Int} (h : rDec s p = some (o, l)) : chkO o p = 0 ∧ flat (numsO o p) ++ l = s := by
  unfold rDec at h
  split at h
  · cases h
  · rename_i hk
    have b0 := num_back (l := s) (by omega)
    split at h
    · rename_i h6
      have A : rdA s p = (0, numR s) := by unfold rdA; rw [h6, show limA 6 p = 0 from rfl, if_neg (by decide)]
      have B : rdB s p = (0, numR s) := by unfold rdB; rw [h6, show limB 6 = 0 from rfl, if_neg (by simp), A]
      rw [A, B, h6] at h
      unfold rDec6 at h
      dsimp only at h
      split at h
      · cases h
      · rename_i h1
        split at h
        · cases h
        · rename_i h2
          cases hr : rCs (numV (numR (numR s))).toNat (numR (numR (numR s))) with
          | none => rw [hr] at h; simp at h
          | some x =>
            obtain ⟨cs, r⟩ := x
            rw [hr] at h
            obtain ⟨hc, rfl, rfl⟩ := rFin_back h
            obtain ⟨i1, i2⟩ := rCs_back _ _ _ _ hr
            refine ⟨hc, ?_⟩
            have e : flat (numsO ⟨6, 0, 0, cs, numV (numR s) == 1⟩ p) ++ l = putS 6 ++ (putS (bitI (numV (numR s) == 1)) ++ (putS (cs.length : Int) ++ (flat (cs.flatMap csNums) ++ l))) := by
              unfold numsO
              rw [if_pos rfl]
              simp only [List.cons_append, List.nil_append, flat_cons, List.append_assoc]
            rw [e, i1, bit_eq (by omega) (by omega), i2, Int.toNat_of_nonneg (by omega), num_back (l := numR (numR s)) (by omega), num_back (l := numR s) (by omega)]
            rw [h6] at b0
            exact b0
    · rename_i h6
      obtain ⟨hc, rfl, rfl⟩ := rFin_back h
      refine ⟨hc, ?_⟩
      obtain ⟨_, _, _, hok⟩ := chkO_zero hc
      unfold okO at hok
      simp only [Bool.and_eq_true] at hok
      obtain ⟨⟨⟨fa, fb⟩, _⟩, _⟩ := hok
      have ba := fitB_bd fa
      have bb := fitB_bd fb
      by_cases ha : 0 < limA (numV s) p
      · have A : rdA s p = (numV (numR s), numR (numR s)) := by unfold rdA; rw [if_pos ha]
        rw [A] at ba
        have b1 := num_back (l := numR s) ba.1
        by_cases hb : 0 < limB (numV s)
        · have B : rdB s p = (numV (numR (numR s)), numR (numR (numR s))) := by unfold rdB; rw [A, if_pos ⟨hb, ba.1⟩]
          rw [B] at bb
          have b2 := num_back (l := numR (numR s)) bb.1
          rw [A, B]
          unfold numsO
          rw [if_neg h6, if_pos ha, if_pos hb]
          simp only [List.cons_append, List.nil_append, flat_cons, List.append_assoc]
          rw [show flat [] = [] from rfl, List.nil_append, b2, b1, b0]
        · have B : rdB s p = (0, numR (numR s)) := by unfold rdB; rw [if_neg (fun h => hb h.1), A]
          rw [A, B]
          unfold numsO
          rw [if_neg h6, if_pos ha, if_neg hb]
          simp only [List.cons_append, List.nil_append, flat_cons, List.append_assoc]
          rw [show flat [] = [] from rfl, List.nil_append, b1, b0]
      · have hb : ¬ 0 < limB (numV s) := fun h => ha (by
          unfold limB at h
          split at h
          · rename_i hk; rw [hk]; show (0 : Int) < 8; decide
          · split at h
            · rename_i hk; rw [hk]; show (0 : Int) < 8; decide
            · omega)
        have A : rdA s p = (0, numR s) := by unfold rdA; rw [if_neg ha]
        have B : rdB s p = (0, numR s) := by unfold rdB; rw [if_neg (fun h => hb h.1), A]
        rw [A, B]
        unfold numsO
        rw [if_neg h6, if_neg ha, if_neg hb]
        simp only [List.cons_append, List.nil_append, flat_cons, List.append_assoc]
        rw [show flat [] = [] from rfl, List.nil_append, b0]

/-! ### In the words of the program's own functions -/
theorem dec_enc {o : Opn} {p : Int} (h : chkO o p = 0) (r : List UInt8) : decO (encO o p ++ r) p = o ∧ decOR (encO o p ++ r) p = r ∧ decOF (encO o p ++ r) p = 0 := by
  have hp := (chkO_zero h).1
  have e : encO o p = flat (numsO o p) := by unfold encO; rw [if_pos h]
  obtain ⟨k, d⟩ := (dec_eq (flat (numsO o p) ++ r) p hp).1 o r (rDec_enc h r)
  rw [e]
  refine ⟨by unfold decO; rw [if_pos k, d], by unfold decOR; rw [if_pos k, d], by unfold decOF; rw [if_neg (by omega), if_pos k]⟩
theorem enc_dec {s : List UInt8} {p : Int} (h : decOF s p = 0) : chkO (decO s p) p = 0 ∧ encO (decO s p) p ++ decOR s p = s := by
  have hp : 1 ≤ p ∧ p ≤ 8 := by
    unfold decOF at h
    split at h
    · omega
    · omega
  have k : decOk s p = true := by
    unfold decOF at h
    rw [if_neg (by omega)] at h
    split at h
    · assumption
    · omega
  obtain ⟨q1, q2⟩ := dec_eq s p hp
  cases hr : rDec s p with
  | none => rw [q2 hr] at k; cases k
  | some x =>
    obtain ⟨o, l⟩ := x
    obtain ⟨_, d⟩ := q1 o l hr
    have e1 : decO s p = o := by unfold decO; rw [if_pos k, d]
    have e2 : decOR s p = l := by unfold decOR; rw [if_pos k, d]
    obtain ⟨c1, c2⟩ := rDec_back hr
    rw [e1, e2]
    exact ⟨c1, by unfold encO; rw [if_pos c1]; exact c2⟩
theorem oenc_apart {a b : Opn} {p : Int} (ha : chkO a p = 0) (hb : chkO b p = 0) (r : List UInt8) (h : encO b p = encO a p ++ r) : a = b := by
  have h1 := (dec_enc ha r).1
  have h2 := (dec_enc hb []).1
  rw [List.append_nil, h] at h2
  rw [← h1, ← h2]
end Go.Proofs.Ytpefjcmaggimhaa

