
/-
  The reference of layer 4: Check.
-/
import Derived.Test.YtpefjcmaggimhaaDeeC
namespace Go.Proofs.Ytpefjcmaggimhaa
open Go.RowKit
set_option linter.unusedVariables false
set_option linter.unusedSimpArgs false
set_option maxRecDepth 100000

set_option maxHeartbeats 4000000 in
theorem rdcheck_any (o : Opn) (v : Value) (p : Int) (w : World) (h : CssOf w v o.cs) : Calls Try.prog 35 #[opV v o, .int .i64 p] w fun r w' => r = .returned (.int .i64 (chkO o p)) ∧ Below w.heap.size w w' := by
  obtain ⟨k, a, b, cs, df⟩ := o
  obtain ⟨ao, cap, rfl⟩ := h.shape
  dsimp only at h ⊢
  obtain ⟨n, hn⟩ : ∃ n, cs.length = n := ⟨_, rfl⟩
  rw [hn] at h
  have HC := Lib.hid h
  have HN := Lib.hid hn
  have E0 := OpAt.new (.slice ao n cap) ⟨k, a, b, cs, df⟩ w
  rw [hn]
  obtain ⟨W, hW⟩ : ∃ W, w.alloc (.cells #[.int .i64 k, .int .i64 a, .int .i64 b, .slice ao n cap, .bool df] 48) = W := ⟨_, rfl⟩
  dsimp only at E0 ⊢
  rw [hW] at E0
  have EW := Lib.hid E0
  obtain ⟨z0, z1, z2, z3, z4⟩ := five_cells E0.ev
  dsimp only at z0 z1 z2 z3 z4
  unfold opV
  dsimp only
  obtain ⟨c, hcc⟩ : ∃ c, chkO ⟨k, a, b, cs, df⟩ p = c := ⟨_, rfl⟩
  rw [hcc]
  have CC := Lib.hid hcc
  clear E0 h hcc hn
  by_cases hp1 : p < 1
  · have E : c = 1 := by rw [← CC.out]; unfold chkO; rw [if_pos (Or.inl hp1)]
    subst E
    go_enter Try.func35, Try.ntmps35
    go_wp2_with fail
    go_ret
    exact ⟨rfl, EW.out.bel⟩
  have d1 : decide (p < 1) = false := decide_eq_false hp1
  by_cases hp2 : 8 < p
  · have E : c = 1 := by rw [← CC.out]; unfold chkO; rw [if_pos (Or.inr (Or.inl hp2))]
    subst E
    go_enter Try.func35, Try.ntmps35
    go_wp2_with fail
    go_ret
    exact ⟨rfl, EW.out.bel⟩
  have d2 : decide (8 < p) = false := decide_eq_false hp2
  by_cases hk1 : k < 1
  · have E : c = 1 := by rw [← CC.out]; unfold chkO; rw [if_pos (Or.inr (Or.inr (Or.inl hk1)))]
    subst E
    go_enter Try.func35, Try.ntmps35
    go_wp2_with fail
    go_ret
    exact ⟨rfl, EW.out.bel⟩
  have d3 : decide (k < 1) = false := decide_eq_false hk1
  by_cases hk2 : 9 < k
  · have E : c = 1 := by rw [← CC.out]; unfold chkO; rw [if_pos (Or.inr (Or.inr (Or.inr hk2)))]
    subst E
    go_enter Try.func35, Try.ntmps35
    go_wp2_with fail
    go_ret
    exact ⟨rfl, EW.out.bel⟩
  have d4 : decide (9 < k) = false := decide_eq_false hk2
  have CD := Lib.hid (show c = if 4 < n then 2 else if okO ⟨k, a, b, cs, df⟩ p then 0 else 4 by
    rw [← CC.out, ← HN.out]; unfold chkO; rw [if_neg (by rintro (x | x | x | x) <;> contradiction)])
  clear CC
  by_cases hl : 4 < n
  · have E : c = 2 := by rw [CD.out, if_pos hl]
    subst E
    have hl' : (4 : Int) < n := by omega
    clear hl
    go_enter Try.func35, Try.ntmps35
    go_wp2_with fail
    go_ret
    exact ⟨rfl, EW.out.bel⟩
  have d5 : decide ((4 : Int) < n) = false := decide_eq_false (by omega)
  have d5' : ¬ (4 : Int) < n := by omega
  obtain ⟨q1, hq1⟩ : ∃ q, fitB a (limA k p) = q := ⟨_, rfl⟩
  obtain ⟨q2, hq2⟩ : ∃ q, fitB b (limB k) = q := ⟨_, rfl⟩
  obtain ⟨q3, hq3⟩ : ∃ q, (k == 6 || (n == 0 && !df)) = q := ⟨_, rfl⟩
  obtain ⟨q4, hq4⟩ : ∃ q, cs.all csB = q := ⟨_, rfl⟩
  have CE := Lib.hid (show c = if (q1 && q2 && q3 && q4) = true then 0 else 4 by
    rw [CD.out, if_neg hl]; unfold okO; dsimp only; rw [HN.out, hq1, hq2, hq3, hq4])
  have F1 := Lib.hid (fun w => win_A a k p (by omega) (by omega) (by omega) w q1 hq1)
  have F2 := Lib.hid (fun w => win_B b k p (by omega) (by omega) w q2 hq2)
  have L := Lib.hid (fun w => row_any k (by omega) (by omega) w)
  clear hp1 hp2 hk1 hk2
  have Q3 := Lib.hid hq3
  have Q4 := Lib.hid hq4
  have CL := Lib.hid hl
  clear CD hl hq1 hq2 hq3 hq4
  obtain ⟨la, hla⟩ : ∃ x, rA k = x := ⟨_, rfl⟩
  obtain ⟨lb, hlb⟩ : ∃ x, rB k = x := ⟨_, rfl⟩
  rw [hla, hlb] at L
  rw [hla] at F1
  rw [hlb] at F2
  have F1 := Lib.hid (show ∀ w, Calls Try.prog 65 #[.int .i64 a, .int .u8 (btI [la, lb] 0), .int .i64 p] w fun r w' => r = .returned (.bool q1) ∧ w' = w from F1.out)
  have F2 := Lib.hid (show ∀ w, Calls Try.prog 65 #[.int .i64 b, .int .u8 (btI [la, lb] 1), .int .i64 p] w fun r w' => r = .returned (.bool q2) ∧ w' = w from F2.out)
  clear hla hlb
  cases q1 with
  | false =>
    have E : c = 4 := CE.out
    subst E
    go_enter Try.func35, Try.ntmps35
    go_wp2_with fail
    refine (L.out _).mono ?_
    rintro r w1 ⟨rfl, hB1⟩
    have EV := Lib.hid (EW.out.below hB1)
    clear hB1 z0 z1 z2 z3 z4 hW
    obtain ⟨z0, z1, z2, z3, z4⟩ := five_cells EV.out.ev
    dsimp only at z0 z1 z2 z3 z4
    go_wp2_with fail
    first | (go_region_with (first | (go_at_call 65; (with_reducible refine (F1.out _).mono ?_); rintro r w6 ⟨rfl, rfl⟩) | fail)) | fail
    all_goals
      go_wp2_with fail
      go_ret
      exact ⟨rfl, EV.out.bel.drew⟩
  | true =>
  cases q2 with
  | false =>
    have E : c = 4 := CE.out
    subst E
    go_enter Try.func35, Try.ntmps35
    go_wp2_with fail
    refine (L.out _).mono ?_
    rintro r w1 ⟨rfl, hB1⟩
    have EV := Lib.hid (EW.out.below hB1)
    clear hB1 z0 z1 z2 z3 z4 hW
    obtain ⟨z0, z1, z2, z3, z4⟩ := five_cells EV.out.ev
    dsimp only at z0 z1 z2 z3 z4
    go_wp2_with fail
    go_region_held3 (fun w' => w'.cell? ⟨w.heap.size, 1, none⟩ = some (.int .i64 a) ∧ w'.cell? ⟨w.heap.size, 2, none⟩ = some (.int .i64 b)) (go_keep)
      (first | (go_at_call 65; (with_reducible refine (F1.out _).mono ?_); rintro r w6 ⟨rfl, rfl⟩) | (go_at_call 65; (with_reducible refine (F2.out _).mono ?_); rintro r w6 ⟨rfl, rfl⟩))
    go_wp2_with fail
    go_ret
    exact ⟨rfl, EV.out.bel.drew⟩
  | true =>
  cases q3 with
  | false =>
    have E : c = 4 := CE.out
    subst E
    have h3 := Q3.out
    rw [Bool.or_eq_false_iff] at h3
    obtain ⟨h6, h7⟩ := h3
    have h6' : (k != 6) = true := by simpa using h6
    by_cases hn : n = 0
    · have hdf : df = true := by simpa [hn] using h7
      have hn' : decide (0 < n) = false := decide_eq_false (by omega)
      have hn2 : ((n : Int) != 0) = false := by simp; omega
      have hn3 : (n != 0) = false := by simp; omega
      have hn4 : (n == 0) = true := by simp; omega
      have hn5 : ((n : Int) == 0) = true := by simp; omega
      subst hdf
      clear hn h7 h6
      go_enter Try.func35, Try.ntmps35
      go_wp2_with fail
      refine (L.out _).mono ?_
      rintro r w1 ⟨rfl, hB1⟩
      have EV := Lib.hid (EW.out.below hB1)
      clear hB1 z0 z1 z2 z3 z4 hW
      obtain ⟨z0, z1, z2, z3, z4⟩ := five_cells EV.out.ev
      dsimp only at z0 z1 z2 z3 z4
      go_wp2_with fail
      go_region_held3 (fun w' => w'.cell? ⟨w.heap.size, 1, none⟩ = some (.int .i64 a) ∧ w'.cell? ⟨w.heap.size, 2, none⟩ = some (.int .i64 b)) (go_keep)
        (first | (go_at_call 65; (with_reducible refine (F1.out _).mono ?_); rintro r w6 ⟨rfl, rfl⟩) | (go_at_call 65; (with_reducible refine (F2.out _).mono ?_); rintro r w6 ⟨rfl, rfl⟩))
      go_wp2_with fail
      go_ret
      exact ⟨rfl, EV.out.bel.drew⟩
    · have hn' : decide (0 < n) = true := decide_eq_true (by omega)
      have hn2 : ((n : Int) != 0) = true := by simp; omega
      have hn3 : (n != 0) = true := by simp; omega
      have hn4 : (n == 0) = false := by simp; omega
      have hn5 : ((n : Int) == 0) = false := by simp; omega
      clear hn h7 h6
      go_enter Try.func35, Try.ntmps35
      go_wp2_with fail
      refine (L.out _).mono ?_
      rintro r w1 ⟨rfl, hB1⟩
      have EV := Lib.hid (EW.out.below hB1)
      clear hB1 z0 z1 z2 z3 z4 hW
      obtain ⟨z0, z1, z2, z3, z4⟩ := five_cells EV.out.ev
      dsimp only at z0 z1 z2 z3 z4
      go_wp2_with fail
      go_region_held3 (fun w' => w'.cell? ⟨w.heap.size, 1, none⟩ = some (.int .i64 a) ∧ w'.cell? ⟨w.heap.size, 2, none⟩ = some (.int .i64 b)) (go_keep)
        (first | (go_at_call 65; (with_reducible refine (F1.out _).mono ?_); rintro r w6 ⟨rfl, rfl⟩) | (go_at_call 65; (with_reducible refine (F2.out _).mono ?_); rintro r w6 ⟨rfl, rfl⟩))
      go_wp2_with fail
      go_ret
      exact ⟨rfl, EV.out.bel.drew⟩
  | true =>
  have CF := Lib.hid (show c = if q4 = true then 0 else 4 by rw [CE.out]; rfl)
  clear CE
  have h3 := Q3.out
  by_cases h6 : k = 6
  · have h6' : (k != 6) = false := by simpa using h6
    clear h3 h6
    go_enter Try.func35, Try.ntmps35
    go_wp2_with fail
    refine (L.out _).mono ?_
    rintro r w1 ⟨rfl, hB1⟩
    have EV := Lib.hid (EW.out.below hB1)
    clear hB1 z0 z1 z2 z3 z4 hW
    obtain ⟨z0, z1, z2, z3, z4⟩ := five_cells EV.out.ev
    dsimp only at z0 z1 z2 z3 z4
    go_wp2_with fail
    go_region_held3 (fun w' => w'.cell? ⟨w.heap.size, 1, none⟩ = some (.int .i64 a) ∧ w'.cell? ⟨w.heap.size, 2, none⟩ = some (.int .i64 b)) (go_keep)
      (first | (go_at_call 65; (with_reducible refine (F1.out _).mono ?_); rintro r w6 ⟨rfl, rfl⟩) | (go_at_call 65; (with_reducible refine (F2.out _).mono ?_); rintro r w6 ⟨rfl, rfl⟩))
    go_wp2_with fail
    go_loopw [63] (fun i wr => ∃ j : Nat, j ≤ n ∧ i = .int .i64 j ∧ (∀ x, x < j → csB (cs.getD x default) = true) ∧ Below w.heap.size w wr) (fun i _ => n - (intOf i).toNat)
    case atStart => exact ⟨0, by omega, rfl, fun x hx => by omega, EV.out.bel.drew⟩
    case round =>
      obtain ⟨j, hj, rfl, hok, hb⟩ := hrel
      have K := Lib.hid hok
      have HB := Lib.hid hb
      clear hok hb z0 z1 z2 z3 z4
      by_cases hlt : j < n
      · have hlt' : (j : Int) < (n : Int) := by omega
        obtain ⟨g, z, rfl, cc⟩ := HC.out.at j (by have := HN.out; omega)
        obtain ⟨c0, c1, c2⟩ := cc.below (Nat.le_refl _) HB.out
        have BAD := Lib.hid (fun h => all_bad (cs := cs) (j := j) (by have := HN.out; omega) h)
        obtain ⟨⟨sd, ch, va⟩, he⟩ : ∃ e, cs.getD j default = e := ⟨_, rfl⟩
        rw [he] at c0 c1 c2 BAD
        have U := Lib.hid he
        have BN := Lib.hid (HB.out.alloc HB.out.size (.cells #[.bool sd, .int .i64 ch, .int .i64 va] 50))
        obtain ⟨x1, hx1⟩ : ∃ x, belB ch 8 = x := ⟨_, rfl⟩
        obtain ⟨x2, hx2⟩ : ∃ x, belB va 100 = x := ⟨_, rfl⟩
        have CB := Lib.hid (show csB ⟨sd, ch, va⟩ = (x1 && x2 && (sd || va == 0)) by unfold csB; dsimp only; rw [hx1, hx2])
        have P1 := Lib.hid (fun w => win_c ch 0 w x1 hx1)
        have P2 := Lib.hid (fun w => win_v va 0 w x2 hx2)
        have Z2 := Lib.hid (show va = 0 → x2 = true from fun h => by rw [← hx2, h]; rfl)
        dsimp only at c0 c1 c2
        clear he cc hx1 hx2
        have NO : Hid (csB ⟨sd, ch, va⟩ = false → c = 4) := Lib.hid (fun h => by rw [CF.out, ← Q4.out, BAD.out h]; rfl)
        cases x1 with
        | false =>
          have E := NO.out CB.out
          subst E
          go_wp2_with fail
          refine (P1.out _).mono ?_
          rintro r w3 ⟨rfl, rfl⟩
          go_wp2_with fail
          go_ret
          exact ⟨rfl, BN.out⟩
        | true =>
        cases sd with
        | true =>
          cases x2 with
          | false =>
            have E := NO.out CB.out
            subst E
            go_wp2_with fail
            refine (P1.out _).mono ?_
            rintro r w3 ⟨rfl, rfl⟩
            go_wp2_with fail
            refine (P2.out _).mono ?_
            rintro r w3 ⟨rfl, rfl⟩
            go_wp2_with fail
            go_ret
            exact ⟨rfl, BN.out⟩
          | true =>
            have OK := Lib.hid (show csB ⟨true, ch, va⟩ = true from CB.out)
            go_wp2_with fail
            refine (P1.out _).mono ?_
            rintro r w3 ⟨rfl, rfl⟩
            go_wp2_with fail
            refine (P2.out _).mono ?_
            rintro r w3 ⟨rfl, rfl⟩
            go_wp2_with fail
            go_roundw
            case rel =>
              refine ⟨j + 1, by omega, by go_num, fun x hx => ?_, BN.out⟩
              by_cases hxj : x = j
              · subst hxj; rw [U.out]; exact OK.out
              · exact K.out x (by omega)
            case measure => simp [intOf] <;> omega
        | false =>
        cases hv : (va == 0) with
        | true =>
          have hv0 : va = 0 := by simpa using hv
          have X2 := Z2.out hv0
          have OK := Lib.hid (show csB ⟨false, ch, va⟩ = true by rw [CB.out, hv, X2]; rfl)
          have hv' : (va != 0) = false := by simpa using hv
          clear hv hv0 X2
          go_wp2_with fail
          refine (P1.out _).mono ?_
          rintro r w3 ⟨rfl, rfl⟩
          go_wp2_with fail
          go_roundw
          case rel =>
            refine ⟨j + 1, by omega, by go_num, fun x hx => ?_, BN.out⟩
            by_cases hxj : x = j
            · subst hxj; rw [U.out]; exact OK.out
            · exact K.out x (by omega)
          case measure => simp [intOf] <;> omega
        | false =>
          have E := NO.out (by rw [CB.out, hv]; simp)
          subst E
          have hv' : (va != 0) = true := by simpa using hv
          clear hv
          go_wp2_with fail
          refine (P1.out _).mono ?_
          rintro r w3 ⟨rfl, rfl⟩
          go_wp2_with fail
          go_ret
          exact ⟨rfl, BN.out⟩
      · have hge : (n : Int) ≤ j := by omega
        have A := all_good (cs := cs) (fun x hx => K.out x (by have := HN.out; omega))
        have E : c = 0 := by rw [CF.out, ← Q4.out, A]; rfl
        subst E
        clear A hlt
        go_wp2_with fail
        go_ret
        exact ⟨rfl, HB.out⟩
  · have h6' : (k != 6) = true := by simpa using h6
    have h7 : n = 0 ∧ df = false := by simpa [h6] using h3
    obtain ⟨h8, h9⟩ := h7
    have h10 : decide (0 < n) = false := decide_eq_false (by omega)
    have hn2 : ((n : Int) != 0) = false := by simp; omega
    have hn3 : (n != 0) = false := by simp; omega
    have hn4 : (n == 0) = true := by simp; omega
    have hn5 : ((n : Int) == 0) = true := by simp; omega
    subst h9
    clear h3 h6 h8
    go_enter Try.func35, Try.ntmps35
    go_wp2_with fail
    refine (L.out _).mono ?_
    rintro r w1 ⟨rfl, hB1⟩
    have EV := Lib.hid (EW.out.below hB1)
    clear hB1 z0 z1 z2 z3 z4 hW
    obtain ⟨z0, z1, z2, z3, z4⟩ := five_cells EV.out.ev
    dsimp only at z0 z1 z2 z3 z4
    go_wp2_with fail
    go_region_held3 (fun w' => w'.cell? ⟨w.heap.size, 1, none⟩ = some (.int .i64 a) ∧ w'.cell? ⟨w.heap.size, 2, none⟩ = some (.int .i64 b)) (go_keep)
      (first | (go_at_call 65; (with_reducible refine (F1.out _).mono ?_); rintro r w6 ⟨rfl, rfl⟩) | (go_at_call 65; (with_reducible refine (F2.out _).mono ?_); rintro r w6 ⟨rfl, rfl⟩))
    go_wp2_with fail
    go_loopw [63] (fun i wr => ∃ j : Nat, j ≤ n ∧ i = .int .i64 j ∧ (∀ x, x < j → csB (cs.getD x default) = true) ∧ Below w.heap.size w wr) (fun i _ => n - (intOf i).toNat)
    case atStart => exact ⟨0, by omega, rfl, fun x hx => by omega, EV.out.bel.drew⟩
    case round =>
      obtain ⟨j, hj, rfl, hok, hb⟩ := hrel
      have K := Lib.hid hok
      have HB := Lib.hid hb
      clear hok hb z0 z1 z2 z3 z4
      by_cases hlt : j < n
      · have hlt' : (j : Int) < (n : Int) := by omega
        obtain ⟨g, z, rfl, cc⟩ := HC.out.at j (by have := HN.out; omega)
        obtain ⟨c0, c1, c2⟩ := cc.below (Nat.le_refl _) HB.out
        have BAD := Lib.hid (fun h => all_bad (cs := cs) (j := j) (by have := HN.out; omega) h)
        obtain ⟨⟨sd, ch, va⟩, he⟩ : ∃ e, cs.getD j default = e := ⟨_, rfl⟩
        rw [he] at c0 c1 c2 BAD
        have U := Lib.hid he
        have BN := Lib.hid (HB.out.alloc HB.out.size (.cells #[.bool sd, .int .i64 ch, .int .i64 va] 50))
        obtain ⟨x1, hx1⟩ : ∃ x, belB ch 8 = x := ⟨_, rfl⟩
        obtain ⟨x2, hx2⟩ : ∃ x, belB va 100 = x := ⟨_, rfl⟩
        have CB := Lib.hid (show csB ⟨sd, ch, va⟩ = (x1 && x2 && (sd || va == 0)) by unfold csB; dsimp only; rw [hx1, hx2])
        have P1 := Lib.hid (fun w => win_c ch 0 w x1 hx1)
        have P2 := Lib.hid (fun w => win_v va 0 w x2 hx2)
        have Z2 := Lib.hid (show va = 0 → x2 = true from fun h => by rw [← hx2, h]; rfl)
        dsimp only at c0 c1 c2
        clear he cc hx1 hx2
        have NO : Hid (csB ⟨sd, ch, va⟩ = false → c = 4) := Lib.hid (fun h => by rw [CF.out, ← Q4.out, BAD.out h]; rfl)
        cases x1 with
        | false =>
          have E := NO.out CB.out
          subst E
          go_wp2_with fail
          refine (P1.out _).mono ?_
          rintro r w3 ⟨rfl, rfl⟩
          go_wp2_with fail
          go_ret
          exact ⟨rfl, BN.out⟩
        | true =>
        cases sd with
        | true =>
          cases x2 with
          | false =>
            have E := NO.out CB.out
            subst E
            go_wp2_with fail
            refine (P1.out _).mono ?_
            rintro r w3 ⟨rfl, rfl⟩
            go_wp2_with fail
            refine (P2.out _).mono ?_
            rintro r w3 ⟨rfl, rfl⟩
            go_wp2_with fail
            go_ret
            exact ⟨rfl, BN.out⟩
          | true =>
            have OK := Lib.hid (show csB ⟨true, ch, va⟩ = true from CB.out)
            go_wp2_with fail
            refine (P1.out _).mono ?_
            rintro r w3 ⟨rfl, rfl⟩
            go_wp2_with fail
            refine (P2.out _).mono ?_
            rintro r w3 ⟨rfl, rfl⟩
            go_wp2_with fail
            go_roundw
            case rel =>
              refine ⟨j + 1, by omega, by go_num, fun x hx => ?_, BN.out⟩
              by_cases hxj : x = j
              · subst hxj; rw [U.out]; exact OK.out
              · exact K.out x (by omega)
            case measure => simp [intOf] <;> omega
        | false =>
        cases hv : (va == 0) with
        | true =>
          have hv0 : va = 0 := by simpa using hv
          have X2 := Z2.out hv0
          have OK := Lib.hid (show csB ⟨false, ch, va⟩ = true by rw [CB.out, hv, X2]; rfl)
          have hv' : (va != 0) = false := by simpa using hv
          clear hv hv0 X2
          go_wp2_with fail
          refine (P1.out _).mono ?_
          rintro r w3 ⟨rfl, rfl⟩
          go_wp2_with fail
          go_roundw
          case rel =>
            refine ⟨j + 1, by omega, by go_num, fun x hx => ?_, BN.out⟩
            by_cases hxj : x = j
            · subst hxj; rw [U.out]; exact OK.out
            · exact K.out x (by omega)
          case measure => simp [intOf] <;> omega
        | false =>
          have E := NO.out (by rw [CB.out, hv]; simp)
          subst E
          have hv' : (va != 0) = true := by simpa using hv
          clear hv
          go_wp2_with fail
          refine (P1.out _).mono ?_
          rintro r w3 ⟨rfl, rfl⟩
          go_wp2_with fail
          go_ret
          exact ⟨rfl, BN.out⟩
      · have hge : (n : Int) ≤ j := by omega
        have A := all_good (cs := cs) (fun x hx => K.out x (by have := HN.out; omega))
        have E : c = 0 := by rw [CF.out, ← Q4.out, A]; rfl
        subst E
        clear A hlt
        go_wp2_with fail
        go_ret
        exact ⟨rfl, HB.out⟩

end Go.Proofs.Ytpefjcmaggimhaa

