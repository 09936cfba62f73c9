
/-
  staithelaw15: SlotsPairs.
-/
import Derived.Test.YtlkfhobacgnckaaLaw15b
namespace Go.Proofs.Ytlkfhobacgnckaa
open Go.RowKit
set_option linter.unusedVariables false
set_option linter.unusedSimpArgs false
set_option maxRecDepth 100000

theorem ofE_one (j : Nat) (h : j ≤ 1000) : ofE (one1 j) = 0 := by
  unfold ofE one1
  rw [if_neg (by simp), if_pos (fun i hi => by
    have : i = 0 := by simpa using hi
    subst this
    show okN ((j : Int) + 1)
    unfold okN; omega)]
theorem SlAt.lens {B s : Nat} {w : World} {F : Nat → Option Ck} {vS vR : Value} {sb rb : List Nat} {cb : Option Nat} {M : Md} (h : SlAt B s w F vS vR sb rb cb M) : sb.length = M.S.length ∧ rb.length = M.R.length := ⟨h.hS.len, h.hR.len⟩
theorem mdOf_ok (size : Nat) (p : Wk) (hs : size ≤ 4) (h : p.R.length ≤ p.S.length) (hn : p.n ≤ max 1 size) : (mdOf size p).Ok := by
  unfold Wk.n at hn
  refine ⟨hs, by simp [mdOf]; omega, ?_⟩
  unfold mdOf
  by_cases h0 : size = 0
  · subst h0; simp
  · simp only [if_neg h0, List.length_map, List.length_drop]; omega

theorem mdOf_small (size : Nat) (p : Wk) : (mdOf size p).S.length ≤ p.S.length ∧ (mdOf size p).R.length ≤ p.R.length := by
  unfold mdOf
  refine ⟨by simp, ?_⟩
  show (if size = 0 then [] else (p.R.drop (p.S.length - size)).map one1).length ≤ _
  split
  · exact Nat.zero_le _
  · simp
/-- The loop's state. -/
structure PairAt (w : World) (size : Nat) (l : List Bool) (j : Nat) (wr : World) : Prop where
  at_ : ∃ vS vR sb rb F, SlAt w.heap.size w.heap.size wr F vS vR sb rb none (mdOf size (walkP size l j))
  kp : KeepS w.heap.size w wr

set_option maxHeartbeats 8000000 in
theorem pairs_law (n : Int) (v : Value) (l : List Bool) (w : World) (hl : BoolsOf w v l) :
    Calls Try.prog 3 #[.int .i64 n, v] w (RetB (.bool true) w) := by
  have HL := Lib.hid hl
  obtain ⟨ao, cap, rfl, hc⟩ := hl
  have HC := Lib.hid hc
  clear hc
  by_cases hn : 0 ≤ n ∧ n ≤ 4
  · by_cases hlong : 300 < l.length
    · have hlong' : (300 : Int) < l.length := by omega
      clear hlong
      go_enter Try.func3, Try.ntmps3
      go_wp2_with fail
      refine (snew_any n w).mono ?_
      rintro r w1 (⟨_, rfl, hA, hB⟩ | ⟨h, _⟩)
      rotate_left
      · exact absurd hn h
      have BB := Lib.hid hB
      clear hA hB
      go_wp2_with fail
      refine (fetches_any _).mono ?_
      rintro r w2 ⟨rfl, hB2⟩
      have BF := Lib.hid (below_trans BB.out hB2 BB.out.size)
      clear hB2
      go_wp2_with fail
      go_ret
      exact ⟨rfl, BF.out⟩
    · obtain ⟨size, rfl⟩ := Int.eq_ofNat_of_zero_le hn.1
      have hsz : size ≤ 4 := by omega
      have b1 : (size : Int) ≤ 4 := by omega
      have b2 : (l.length : Int) ≤ 300 := by omega
      have b0 : decide ((300 : Int) < l.length) = false := decide_eq_false (by omega)
      have LN := Lib.hid (show l.length ≤ 1000 by omega)
      clear hlong
      go_enter Try.func3, Try.ntmps3
      go_wp2_with fail
      refine (snew_any size w).mono ?_
      rintro r w1 (⟨_, rfl, hA, hB⟩ | ⟨h, _⟩)
      rotate_left
      · exact absurd hn h
      rw [Int.toNat_natCast] at hA
      have START := Lib.hid (show PairAt w size l 0 w1 from ⟨⟨_, _, _, _, _, by
        have e : mdOf size (walkP size l 0) = Md.new size := by unfold mdOf walkP Md.new; simp
        rw [e]; exact hA⟩, keepS_below (Nat.le_refl _) hB⟩)
      clear hA hB hn
      go_wp2_with fail
      go_loopw [7, 8, 43] (fun sd rv i wr => ∃ (j : Nat), j ≤ l.length ∧ i = .int .i64 j ∧ sd = .int .i64 ((walkP size l j).S.length : Nat) ∧ rv = .int .i64 ((walkP size l j).R.length : Nat) ∧ PairAt w size l j wr) (fun _ _ i _ => l.length - (intOf i).toNat)
      case atStart => exact ⟨0, by omega, rfl, rfl, rfl, START.out⟩
      case round =>
        obtain ⟨j, hj, rfl, rfl, rfl, hat⟩ := hrel
        obtain ⟨vS, vR, sb, rb, F, hA⟩ := hat.at_
        have A0 := Lib.hid hA
        have K0 := Lib.hid hat.kp
        have OK := Lib.hid (walkP_ok size l j)
        have MOK := Lib.hid (mdOf_ok size (walkP size l j) hsz OK.out.1 OK.out.2.1)
        obtain ⟨P, hP⟩ : ∃ P, walkP size l j = P := ⟨_, rfl⟩
        rw [hP] at A0 OK MOK ⊢
        have PP := Lib.hid hP
        obtain ⟨sl, hsl⟩ : ∃ n, P.S.length = n := ⟨_, rfl⟩
        obtain ⟨rl, hrl⟩ : ∃ n, P.R.length = n := ⟨_, rfl⟩
        rw [hsl, hrl]
        have b3 : (sl : Int) ≤ 300 := by have := OK.out.2.2; omega
        have b4 : (rl : Int) ≤ 300 := by have := OK.out.1; omega
        have SL := Lib.hid hsl
        have RL := Lib.hid hrl
        clear hat hA hP hsl hrl
        by_cases hlt : j < l.length
        · have hlt' : (j : Int) < l.length := by omega
          have hB0 := K0.out.bel rfl
          obtain ⟨g, z, rfl, hcc⟩ := HC.out (by omega)
          have c0 : wr.cell? ⟨g, z + j, none⟩ = some (.bool (l.getD j false)) := by
            rw [hB0.cell (p := ⟨g, z + j, none⟩) (block_lt_of_cell (hcc j hlt))]; exact hcc j hlt
          clear hcc hB0
          cases his : l.getD j false with
          | true =>
            rw [his] at c0
            have IS := Lib.hid his
            clear his
            go_wp2_with fail
            obtain ⟨A1, k1⟩ := A0.out.alloc (.cells #[.int .i64 ((j : Int) + 1)] 3)
            refine (sl_of A1 _ (one1 j) (src_lit wr (one1 j) (by simp [one1])) (ofE_one j (by have := LN.out; omega))).mono ?_
            rintro r w2 ⟨c, F2, rfl, hA2, hc2, hlt2, hs2, hk2⟩
            have A2 := Lib.hid hA2
            have C2 := Lib.hid hc2
            have K2 := Lib.hid ((K0.out.trans k1).trans hk2)
            clear A1 k1 hA2 hc2 hlt2 hs2 hk2 c0
            go_wp2_with fail
            refine (send_any A2.out MOK.out (by show P.S.length ≤ 50000; have := SL.out; omega) c (one1 j) C2.out).mono ?_
            rintro r w4 ⟨p, vS4, vR4, sb4, rb4, F4, rfl, hA4, hs4, hf4, ho4, hk4⟩
            have NX := Lib.hid (show walkP size l (j + 1) = P.step size j true by rw [walkP_succ, PP.out, IS.out])
            have MS := mdOf_send size P j OK.out.1 OK.out.2.1
            rw [MS, ← NX.out] at hA4
            have OK2 := Lib.hid (walkP_ok size l (j + 1))
            by_cases hn : P.n < max 1 size
            · have he : (mdOf size P).sendE = 0 := by rw [mdOf_sendE, if_pos hn]
              rw [he]
              rw [mdOf_sendF size P OK.out.1 hn] at hf4
              have SL2 := Lib.hid (show (walkP size l (j + 1)).S.length = sl + 1 by rw [NX.out]; unfold Wk.step; simp only [if_true]; rw [if_pos hn, List.length_append, SL.out]; rfl)
              have RL2 := Lib.hid (show (walkP size l (j + 1)).R.length = rl by rw [NX.out]; unfold Wk.step; simp only [if_true]; rw [if_pos hn, RL.out])
              have A4 := Lib.hid hA4
              have K4 := Lib.hid (K2.out.trans hk4)
              by_cases hd : 0 < size ∧ size ≤ sl
              · rw [if_pos (by rw [SL.out]; exact hd)] at hf4
                obtain ⟨x, rfl, hx, hxn⟩ : ∃ x, p = some ⟨x, 0, none⟩ ∧ Has F4 x (one1 (P.R.getD (P.S.length - size) 0)) ∧ x ∉ _ := hf4
                have hkk : sl - size < ((walkP size l j).sel false).length := by
                  show sl - size < (walkP size l j).R.length
                  rw [PP.out, RL.out]
                  have h1 := SL.out
                  have h2 := RL.out
                  unfold Wk.n at hn
                  omega
                have hat2 := walkP_at size l false (show j ≤ l.length by omega) hkk
                have X := Lib.hid (show Has F4 x (one1 (((walkP size l l.length).sel false).getD (sl - size) 0)) by
                  rw [hat2.1]
                  show Has F4 x (one1 ((walkP size l j).R.getD (sl - size) 0))
                  rw [PP.out, ← SL.out]; exact hx)
                have HK := Lib.hid hat2.2
                have d1 : decide (0 < size) = true := decide_eq_true hd.1
                have d2 : decide (size ≤ sl) = true := decide_eq_true hd.2
                have d3 : ((size : Int) == 0) = false := by simp; omega
                have d4 : decide (sl < size) = false := decide_eq_false (by omega)
                have ek : ((sl : Int) - (size : Int)) = ((sl - size : Nat) : Int) := by omega
                have EK := Lib.hid ek
                have LB := Lib.hid (HL.out.below ((K4.out.bel rfl)))
                clear hs4 ho4 hk4 hA4 MS he hn hd hx hxn hkk hat2 A2 C2 K2 ek
                go_wp2_with fail
                rw [EK.out]
                refine (given_yes A4.out.fam x _ l false (sl - size) size LB.out (by have := LN.out; omega) hsz HK.out X.out).mono ?_
                rintro r w6 ⟨rfl, hB6⟩
                have A6 := Lib.hid (A4.out.below hB6)
                have K6 := Lib.hid (K4.out.trans (keepS_below A4.out.bw hB6))
                clear hB6 A4 K4 X HK EK LB
                go_wp2_with fail

                refine (held_any A6.out (by have := A6.out.lens.1; have := (mdOf_small size (walkP size l (j + 1))).1; have := OK2.out; have := LN.out; omega) (by have := A6.out.lens.2; have := (mdOf_small size (walkP size l (j + 1))).2; have := OK2.out; have := LN.out; omega)).mono ?_
                rintro r w11 ⟨v11, hb, F11, rfl, hrow, hf11, hs11, hh, _, _, hk11⟩
                obtain ⟨q, hq⟩ : ∃ q, hb.length = q := ⟨_, rfl⟩
                have hq2 : (q : Int) ≤ 2 * (size : Int) + 2 := by
                  have h1 := hh.len
                  have h2 := mdOf_kept size (walkP size l (j + 1)) OK2.out.1 OK2.out.2.1
                  omega
                rw [hq] at hrow
                obtain ⟨ao2, cap2, rfl⟩ := owns_slice hrow
                have A7 := Lib.hid (show PairAt w size l (j + 1) w11 from ⟨⟨_, _, _, _, _, A6.out.keepP hf11 hs11 hk11⟩, K6.out.trans hk11.s⟩)
                clear hrow hf11 hh hk11 hs11 hq A6 K6
                go_wp2_with fail
                go_roundw
                case rel => exact ⟨j + 1, by omega, by go_num, by rw [SL2.out]; try go_num, by rw [RL2.out]; try go_num, A7.out⟩
                case measure => simp [intOf] <;> omega
              · rw [if_neg (by rw [SL.out]; exact hd)] at hf4
                obtain rfl : p = none := hf4
                have e1 : (decide (0 < size) = false ∧ decide (size ≤ sl) = true ∧ ((size : Int) == 0) = true ∧ decide (sl < size) = false) ∨ (decide (0 < size) = true ∧ decide (size ≤ sl) = false ∧ ((size : Int) == 0) = false ∧ decide (sl < size) = true) := by
                  by_cases h : 0 < size
                  · have h2 : ¬ size ≤ sl := fun h2 => hd ⟨h, h2⟩
                    exact .inr ⟨decide_eq_true h, decide_eq_false h2, by simp; omega, decide_eq_true (by omega)⟩
                  · exact .inl ⟨decide_eq_false h, decide_eq_true (by omega), by simp; omega, decide_eq_false (by omega)⟩
                have A6 := A4
                have K6 := K4
                clear hs4 ho4 hk4 hA4 MS he hn hd A2 C2 K2 A4 K4
                rcases e1 with ⟨e1, e2, e3, e4⟩ | ⟨e1, e2, e3, e4⟩
                all_goals
                  go_wp2_with fail

                  refine (held_any A6.out (by have := A6.out.lens.1; have := (mdOf_small size (walkP size l (j + 1))).1; have := OK2.out; have := LN.out; omega) (by have := A6.out.lens.2; have := (mdOf_small size (walkP size l (j + 1))).2; have := OK2.out; have := LN.out; omega)).mono ?_
                  rintro r w11 ⟨v11, hb, F11, rfl, hrow, hf11, hs11, hh, _, _, hk11⟩
                  obtain ⟨q, hq⟩ : ∃ q, hb.length = q := ⟨_, rfl⟩
                  have hq2 : (q : Int) ≤ 2 * (size : Int) + 2 := by
                    have h1 := hh.len
                    have h2 := mdOf_kept size (walkP size l (j + 1)) OK2.out.1 OK2.out.2.1
                    omega
                  rw [hq] at hrow
                  obtain ⟨ao2, cap2, rfl⟩ := owns_slice hrow
                  have A7 := Lib.hid (show PairAt w size l (j + 1) w11 from ⟨⟨_, _, _, _, _, A6.out.keepP hf11 hs11 hk11⟩, K6.out.trans hk11.s⟩)
                  clear hrow hf11 hh hk11 hs11 hq A6 K6
                  go_wp2_with fail
                  go_roundw
                  case rel => exact ⟨j + 1, by omega, by go_num, by rw [SL2.out]; try go_num, by rw [RL2.out]; try go_num, A7.out⟩
                  case measure => simp [intOf] <;> omega
            · have he : (mdOf size P).sendE = 5 := by rw [mdOf_sendE, if_neg hn]
              rw [he]
              have SL2 := Lib.hid (show (walkP size l (j + 1)).S.length = sl by rw [NX.out]; unfold Wk.step; simp only [if_true]; rw [if_neg hn, SL.out])
              have RL2 := Lib.hid (show (walkP size l (j + 1)).R.length = rl by rw [NX.out]; unfold Wk.step; simp only [if_true]; rw [if_neg hn, RL.out])
              have A6 := Lib.hid hA4
              have K6 := Lib.hid (K2.out.trans hk4)
              clear hs4 hf4 ho4 hk4 hA4 MS he hn A2 C2 K2
              go_wp2_with fail

              refine (held_any A6.out (by have := A6.out.lens.1; have := (mdOf_small size (walkP size l (j + 1))).1; have := OK2.out; have := LN.out; omega) (by have := A6.out.lens.2; have := (mdOf_small size (walkP size l (j + 1))).2; have := OK2.out; have := LN.out; omega)).mono ?_
              rintro r w11 ⟨v11, hb, F11, rfl, hrow, hf11, hs11, hh, _, _, hk11⟩
              obtain ⟨q, hq⟩ : ∃ q, hb.length = q := ⟨_, rfl⟩
              have hq2 : (q : Int) ≤ 2 * (size : Int) + 2 := by
                have h1 := hh.len
                have h2 := mdOf_kept size (walkP size l (j + 1)) OK2.out.1 OK2.out.2.1
                omega
              rw [hq] at hrow
              obtain ⟨ao2, cap2, rfl⟩ := owns_slice hrow
              have A7 := Lib.hid (show PairAt w size l (j + 1) w11 from ⟨⟨_, _, _, _, _, A6.out.keepP hf11 hs11 hk11⟩, K6.out.trans hk11.s⟩)
              clear hrow hf11 hh hk11 hs11 hq A6 K6
              go_wp2_with fail
              go_roundw
              case rel => exact ⟨j + 1, by omega, by go_num, by rw [SL2.out]; try go_num, by rw [RL2.out]; try go_num, A7.out⟩
              case measure => simp [intOf] <;> omega
          | false =>
            rw [his] at c0
            have IS := Lib.hid his
            clear his
            go_wp2_with fail
            obtain ⟨A1, k1⟩ := A0.out.alloc (.cells #[.int .i64 ((j : Int) + 1)] 3)
            refine (sl_of A1 _ (one1 j) (src_lit wr (one1 j) (by simp [one1])) (ofE_one j (by have := LN.out; omega))).mono ?_
            rintro r w2 ⟨c, F2, rfl, hA2, hc2, hlt2, hs2, hk2⟩
            have A2 := Lib.hid hA2
            have C2 := Lib.hid hc2
            have K2 := Lib.hid ((K0.out.trans k1).trans hk2)
            clear A1 k1 hA2 hc2 hlt2 hs2 hk2 c0
            go_wp2_with fail
            refine (recv_any A2.out MOK.out (by show P.S.length ≤ 50000; have := SL.out; omega) c (one1 j) C2.out).mono ?_
            rintro r w4 ⟨p, vS4, vR4, sb4, rb4, F4, rfl, hA4, hs4, hf4, ho4, hk4⟩
            have NX := Lib.hid (show walkP size l (j + 1) = P.step size j false by rw [walkP_succ, PP.out, IS.out])
            have MS := mdOf_recv size P j OK.out.1 OK.out.2.1
            rw [MS, ← NX.out] at hA4
            have OK2 := Lib.hid (walkP_ok size l (j + 1))
            by_cases hn : 0 < P.n
            · have he : (mdOf size P).recvE = 0 := by rw [mdOf_recvE, if_pos hn]
              rw [he]
              rw [mdOf_recvF size P hn] at hf4
              have SL2 := Lib.hid (show (walkP size l (j + 1)).S.length = sl by rw [NX.out]; unfold Wk.step; simp only [Bool.false_eq_true, if_false]; rw [if_pos hn, SL.out])
              have RL2 := Lib.hid (show (walkP size l (j + 1)).R.length = rl + 1 by rw [NX.out]; unfold Wk.step; simp only [Bool.false_eq_true, if_false]; rw [if_pos hn, List.length_append, RL.out]; rfl)
              have A4 := Lib.hid hA4
              have K4 := Lib.hid (K2.out.trans hk4)
              obtain ⟨x, rfl, hx, hxn⟩ : ∃ x, p = some ⟨x, 0, none⟩ ∧ Has F4 x (one1 (P.S.getD P.R.length 0)) ∧ x ∉ _ := hf4
              have hkk : rl < ((walkP size l j).sel true).length := by
                show rl < (walkP size l j).S.length
                rw [PP.out, SL.out]
                have h1 := SL.out
                have h2 := RL.out
                unfold Wk.n at hn
                omega
              have hat2 := walkP_at size l true (show j ≤ l.length by omega) hkk
              have X := Lib.hid (show Has F4 x (one1 (((walkP size l l.length).sel true).getD rl 0)) by
                rw [hat2.1]
                show Has F4 x (one1 ((walkP size l j).S.getD rl 0))
                rw [PP.out, ← RL.out]; exact hx)
              have HK := Lib.hid hat2.2
              have LB := Lib.hid (HL.out.below ((K4.out.bel rfl)))
              clear hs4 ho4 hk4 hA4 MS he hn hx hxn hkk hat2 A2 C2 K2
              go_wp2_with fail
              refine (given_yes A4.out.fam x _ l true rl size LB.out (by have := LN.out; omega) hsz HK.out X.out).mono ?_
              rintro r w6 ⟨rfl, hB6⟩
              have A6 := Lib.hid (A4.out.below hB6)
              have K6 := Lib.hid (K4.out.trans (keepS_below A4.out.bw hB6))
              clear hB6 A4 K4 X HK LB
              go_wp2_with fail

              refine (held_any A6.out (by have := A6.out.lens.1; have := (mdOf_small size (walkP size l (j + 1))).1; have := OK2.out; have := LN.out; omega) (by have := A6.out.lens.2; have := (mdOf_small size (walkP size l (j + 1))).2; have := OK2.out; have := LN.out; omega)).mono ?_
              rintro r w11 ⟨v11, hb, F11, rfl, hrow, hf11, hs11, hh, _, _, hk11⟩
              obtain ⟨q, hq⟩ : ∃ q, hb.length = q := ⟨_, rfl⟩
              have hq2 : (q : Int) ≤ 2 * (size : Int) + 2 := by
                have h1 := hh.len
                have h2 := mdOf_kept size (walkP size l (j + 1)) OK2.out.1 OK2.out.2.1
                omega
              rw [hq] at hrow
              obtain ⟨ao2, cap2, rfl⟩ := owns_slice hrow
              have A7 := Lib.hid (show PairAt w size l (j + 1) w11 from ⟨⟨_, _, _, _, _, A6.out.keepP hf11 hs11 hk11⟩, K6.out.trans hk11.s⟩)
              clear hrow hf11 hh hk11 hs11 hq A6 K6
              go_wp2_with fail
              go_roundw
              case rel => exact ⟨j + 1, by omega, by go_num, by rw [SL2.out]; try go_num, by rw [RL2.out]; try go_num, A7.out⟩
              case measure => simp [intOf] <;> omega
            · have he : (mdOf size P).recvE = 6 := by rw [mdOf_recvE, if_neg hn]
              rw [he]
              have SL2 := Lib.hid (show (walkP size l (j + 1)).S.length = sl by rw [NX.out]; unfold Wk.step; simp only [Bool.false_eq_true, if_false]; rw [if_neg hn, SL.out])
              have RL2 := Lib.hid (show (walkP size l (j + 1)).R.length = rl by rw [NX.out]; unfold Wk.step; simp only [Bool.false_eq_true, if_false]; rw [if_neg hn, RL.out])
              have A6 := Lib.hid hA4
              have K6 := Lib.hid (K2.out.trans hk4)
              clear hs4 hf4 ho4 hk4 hA4 MS he hn A2 C2 K2
              go_wp2_with fail

              refine (held_any A6.out (by have := A6.out.lens.1; have := (mdOf_small size (walkP size l (j + 1))).1; have := OK2.out; have := LN.out; omega) (by have := A6.out.lens.2; have := (mdOf_small size (walkP size l (j + 1))).2; have := OK2.out; have := LN.out; omega)).mono ?_
              rintro r w11 ⟨v11, hb, F11, rfl, hrow, hf11, hs11, hh, _, _, hk11⟩
              obtain ⟨q, hq⟩ : ∃ q, hb.length = q := ⟨_, rfl⟩
              have hq2 : (q : Int) ≤ 2 * (size : Int) + 2 := by
                have h1 := hh.len
                have h2 := mdOf_kept size (walkP size l (j + 1)) OK2.out.1 OK2.out.2.1
                omega
              rw [hq] at hrow
              obtain ⟨ao2, cap2, rfl⟩ := owns_slice hrow
              have A7 := Lib.hid (show PairAt w size l (j + 1) w11 from ⟨⟨_, _, _, _, _, A6.out.keepP hf11 hs11 hk11⟩, K6.out.trans hk11.s⟩)
              clear hrow hf11 hh hk11 hs11 hq A6 K6
              go_wp2_with fail
              go_roundw
              case rel => exact ⟨j + 1, by omega, by go_num, by rw [SL2.out]; try go_num, by rw [RL2.out]; try go_num, A7.out⟩
              case measure => simp [intOf] <;> omega
        · have hge : (l.length : Int) ≤ j := by omega
          clear hlt
          go_wp2_with fail
          refine (fetches_any _).mono ?_
          rintro r w2 ⟨rfl, hB2⟩
          have BF := Lib.hid (below_trans (K0.out.bel rfl) hB2 (K0.out.bel rfl).size)
          clear hB2
          go_wp2_with fail
          go_ret
          exact ⟨rfl, BF.out⟩
  · go_enter Try.func3, Try.ntmps3
    go_wp2_with fail
    refine (snew_any n w).mono ?_
    rintro r w1 (⟨h, _⟩ | ⟨_, rfl, rfl⟩)
    · exact absurd h hn
    go_wp2_with fail
    refine (fetches_any _).mono ?_
    rintro r w2 ⟨rfl, hB2⟩
    go_wp2_with fail
    go_ret
    exact ⟨rfl, hB2⟩

end Go.Proofs.Ytlkfhobacgnckaa

