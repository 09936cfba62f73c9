
/-
  CellSteps, CellAgain.
-/
import Derived.Test.YtonegedenmchbaaCelS
import Derived.Test.YtonegedenmchbaaLaw18a
namespace Go.Proofs.Ytonegedenmchbaa
open Go.RowKit
set_option linter.unusedVariables false
set_option linter.unusedSimpArgs false
set_option maxRecDepth 100000

def BoAny (B : Nat) (w : World) (b c : Nat) : Prop := ∃ x l tl m, Bo B w b c x l tl m
theorem BoAny.below {B : Nat} {w w' : World} {b c : Nat} (h : BoAny B w b c) (hB : Below w.heap.size w w') : BoAny B w' b c := by
  obtain ⟨x, l, tl, m, h⟩ := h
  exact ⟨x, l, tl, m, h.below hB⟩
theorem bo_low {B : Nat} {w0 w w' : World} {b c : Nat} (h : Below B w0 w) (hB : B ≤ w0.heap.size) (hb : B ≤ b) (hc : B ≤ c) (ht : Turned (Bc b c) w w') : Below B w0 w' := below_turned h ht hB (fun i hi => by rcases hi with hi | hi <;> omega)
/-- The two cells of the beginning. -/
theorem bo_first {B : Nat} {w w' : World} {b c : Nat} (h : Ce B w b 0 [] false) (hB : Below w.heap.size w w') (hc : R18 w' c 0 ⟨0, 0, true, false, zeroR, false⟩) (hcc : ∃ cur, w'.heap[c]? = some (Obj.cells cur 92 (0, 0))) (hlow : w.heap.size ≤ c) : BoAny B w' b c := by
  obtain ⟨cur, hcur⟩ := hcc
  have h1 := h.low
  have h3 := h.2.2
  exact ⟨_, _, _, _, ⟨h.below hB, hc, rel_new, by omega, by omega, cur, _, hcur, by decide⟩⟩

set_option maxHeartbeats 4000000 in
theorem steps_law (v : Value) (es : List Stp) (w : World) (h : StpsOf w v es) : Calls Try.prog 5 #[v] w (LawPost w) := by
  obtain ⟨ao, cap, rfl, hc⟩ := h
  obtain ⟨n, hn⟩ : ∃ n, es.length = n := ⟨_, rfl⟩
  have HC := Lib.hid hc
  have HN := Lib.hid hn
  rw [hn]
  clear hc hn
  go_enter Try.func5, Try.ntmps5
  go_wp2_with fail
  refine (ce_new w.heap.size w (Nat.le_refl _)).mono ?_
  rintro e w1 ⟨⟨b, rfl, hce, hb⟩, hB1⟩
  have C1 := Lib.hid hce
  have B1 := Lib.hid hB1
  clear hce hB1
  by_cases hl : 150 < n
  · have hl' : (150 : Int) < (n : Int) := by omega
    go_wp2_with fail
    refine (races_any w1).mono ?_
    rintro e w2 ⟨rfl, hb2⟩
    have B2 := Lib.hid (below_trans B1.out hb2 B1.out.size)
    clear hb2
    go_wp2_with fail
    go_ret
    exact ⟨rfl, B2.out⟩
  · have hl' : ¬ ((150 : Int) < (n : Int)) := by omega
    go_wp2_with fail
    refine (rnew_any w1).mono ?_
    rintro e w2 ⟨c, rfl, hr, hcc, hlow, hb2⟩
    have BO2 := Lib.hid (bo_first C1.out hb2 hr hcc hlow)
    have B2 := Lib.hid (below_trans B1.out hb2 B1.out.size)
    have LB := Lib.hid (show w.heap.size ≤ b ∧ w.heap.size ≤ c from ⟨hb, by have := B1.out.size; omega⟩)
    clear hr hcc hlow hb2 hb C1 B1
    go_wp2_with fail
    go_loopw [23] (fun i wr => ∃ k : Nat, k ≤ n ∧ i = .int .i64 k ∧ BoAny w.heap.size wr b c ∧ Below w.heap.size w wr) (fun i _ => n - (intOf i).toNat)
    case atStart => exact ⟨0, by omega, rfl, BO2.out, B2.out⟩
    case round =>
      obtain ⟨k, hk, rfl, hbo, hbr⟩ := hrel
      have HB := Lib.hid hbr
      have BO := Lib.hid hbo
      clear hbr hbo BO2 B2
      by_cases hlt : k < n
      · have hlt' : (k : Int) < (n : Int) := by omega
        obtain ⟨b', o, rfl, hcc⟩ := HC.out (by have := HN.out; omega)
        obtain ⟨c0, c1, c2, c3, c4, hsrc, hu⟩ := (hcc k (by have := HN.out; omega)).below (Nat.le_refl _) HB.out
        obtain ⟨s, hs⟩ : ∃ s, es.getD k default = s := ⟨_, rfl⟩
        rw [hs] at c0 c1 c2 c3 c4 hsrc hu
        obtain ⟨wh, tid, cut, e, cv, cl⟩ := s
        dsimp only at c0 c1 c2 c3 c4 hsrc hu
        obtain ⟨so, scap, rfl, _⟩ := id hsrc
        obtain ⟨q, hq⟩ : ∃ q, cl.length = q := ⟨_, rfl⟩
        rw [hq] at c4 hsrc
        clear hcc hs
        obtain ⟨W1, hW1⟩ : ∃ W1, wr.alloc (.cells #[.int .i64 wh, .int .i64 tid, .int .i64 cut, .int .u64 e, .slice so q scap] 60) = W1 := ⟨_, rfl⟩
        have BW1 : Below wr.heap.size wr W1 := by rw [← hW1]; exact (Below.refl _ _).alloc (Nat.le_refl _) _
        obtain ⟨x, l, tl, m, bo1⟩ := BO.out.below BW1
        have BO1 := Lib.hid bo1
        have HB1 := Lib.hid (below_trans HB.out BW1 HB.out.size)
        have SR := Lib.hid (hsrc.below (Nat.le_refl _) BW1)
        have HU := Lib.hid hu
        have HW1 := Lib.hid hW1
        clear hW1 BW1 bo1 hsrc hu hq
        go_wp2_with fail
        rw [HW1.out]
        refine (does_any w.heap.size b c x l tl m ⟨wh, tid, cut, e, .slice so q scap, cl⟩ W1 BO1.out SR.out HU.out).mono ?_
        rintro r w5 ⟨rfl, ht, x', l', tl', m', bo5⟩
        have BO5 := Lib.hid bo5
        have HB5 := Lib.hid (bo_low HB1.out (Nat.le_refl _) LB.out.1 LB.out.2 ht)
        clear ht bo5 c0 c1 c2 c3 c4
        go_wp2_with fail
        refine (looks_any w.heap.size b c x' l' tl' m' w5 BO5.out).mono ?_
        rintro r w6 ⟨rfl, hb6⟩
        have BO6 := Lib.hid (show BoAny w.heap.size w6 b c from ⟨_, _, _, _, BO5.out.below hb6⟩)
        have HB6 := Lib.hid (below_trans HB5.out hb6 HB5.out.size)
        clear hb6
        go_wp2_with fail
        go_roundw
        case rel => exact ⟨k + 1, by omega, by go_num, BO6.out, HB6.out⟩
        case measure => simp [intOf] <;> omega
      · have hge : (n : Int) ≤ k := by omega
        clear hlt
        go_wp2_with fail
        refine (races_any _).mono ?_
        rintro e w3 ⟨rfl, hb3⟩
        have B3 := Lib.hid (below_trans HB.out hb3 HB.out.size)
        clear hb3
        go_wp2_with fail
        go_ret
        exact ⟨rfl, B3.out⟩

/-! ### CellAgain -/
theorem again_known {e : Int} (h : okE e = true) (f : Int → Int) : knownB e e f = true := known_own f h rfl
theorem again_read {e : Int} {l : List Int} (h : okE e = true) (hl : l = [] ∨ l = [e]) (f : Int → Int) : readL l e f = [e] := by
  rcases hl with rfl | rfl
  · exact readL_nil e f
  · simp [readL, keptL, again_known h, insL]
theorem again_write {e : Int} {l : List Int} (h : okE e = true) (hl : l = [] ∨ l = [e]) (f : Int → Int) : writeV e l false e f = 0 := by
  rcases hl with rfl | rfl <;> simp [writeV, again_known h]

set_option maxHeartbeats 4000000 in
theorem again_law (v : Value) (es : List Stp) (e times : Int) (w : World) (h : StpsOf w v es) (h0 : 0 ≤ e) (h1 : e < 18446744073709551616) : Calls Try.prog 7 #[v, .int .u64 e, .int .i64 times] w (LawPost w) := by
  obtain ⟨ao, cap, rfl, hc⟩ := h
  obtain ⟨n, hn⟩ : ∃ n, es.length = n := ⟨_, rfl⟩
  have HC := Lib.hid hc
  have HN := Lib.hid hn
  have UE := Lib.hid (show U64 e from ⟨h0, h1⟩)
  rw [hn]
  clear hc hn h0 h1
  go_enter Try.func7, Try.ntmps7
  go_wp2_with fail
  refine (ce_new w.heap.size w (Nat.le_refl _)).mono ?_
  rintro r w1 ⟨⟨b, rfl, hce, hb⟩, hB1⟩
  have C1 := Lib.hid hce
  have B1 := Lib.hid hB1
  clear hce hB1
  by_cases hl : 100 < n ∨ times < 0 ∨ 50 < times
  · have hh : (100 : Int) < (n : Int) ∨ (¬ (100 : Int) < (n : Int) ∧ times < 0) ∨ (¬ (100 : Int) < (n : Int) ∧ ¬ times < 0 ∧ 50 < times) := by omega
    clear hl
    rcases hh with h1 | ⟨h1, h2⟩ | ⟨h1, h2, h3⟩
    all_goals
      go_wp2_with fail
      refine (races_any w1).mono ?_
      rintro r w2 ⟨rfl, hb2⟩
      have B2 := Lib.hid (below_trans B1.out hb2 B1.out.size)
      clear hb2
      go_wp2_with fail
      go_ret
      exact ⟨rfl, B2.out⟩
  · have hl1 : ¬ ((100 : Int) < (n : Int)) := by omega
    have hl2 : ¬ (times < 0) := by omega
    have hl3 : ¬ (50 < times) := by omega
    have HT := Lib.hid (show 0 ≤ times ∧ times ≤ 50 from by omega)
    clear hl
    go_wp2_with fail
    refine (rnew_any w1).mono ?_
    rintro r w2 ⟨c, rfl, hr, hcc, hlow, hb2⟩
    have BO2 := Lib.hid (bo_first C1.out hb2 hr hcc hlow)
    have B2 := Lib.hid (below_trans B1.out hb2 B1.out.size)
    have LB := Lib.hid (show w.heap.size ≤ b ∧ w.heap.size ≤ c from ⟨hb, by have := B1.out.size; omega⟩)
    clear hr hcc hlow hb2 hb C1 B1
    go_wp2_with fail
    go_loopw [44] (fun i wr => ∃ k : Nat, k ≤ n ∧ i = .int .i64 k ∧ BoAny w.heap.size wr b c ∧ Below w.heap.size w wr) (fun i _ => n - (intOf i).toNat)
    case atStart => exact ⟨0, by omega, rfl, BO2.out, B2.out⟩
    case round =>
      obtain ⟨k, hk, rfl, hbo, hbr⟩ := hrel
      have HB := Lib.hid hbr
      have BO := Lib.hid hbo
      clear hbr hbo BO2 B2
      by_cases hlt : k < n
      · have hlt' : (k : Int) < (n : Int) := by omega
        obtain ⟨b', o, rfl, hcc⟩ := HC.out (by have := HN.out; omega)
        obtain ⟨c0, c1, c2, c3, c4, hsrc, hu⟩ := (hcc k (by have := HN.out; omega)).below (Nat.le_refl _) HB.out
        obtain ⟨s, hs⟩ : ∃ s, es.getD k default = s := ⟨_, rfl⟩
        rw [hs] at c0 c1 c2 c3 c4 hsrc hu
        obtain ⟨wh, tid, cut, se, cv, cl⟩ := s
        dsimp only at c0 c1 c2 c3 c4 hsrc hu
        obtain ⟨so, scap, rfl, _⟩ := id hsrc
        obtain ⟨q, hq⟩ : ∃ q, cl.length = q := ⟨_, rfl⟩
        rw [hq] at c4 hsrc
        clear hcc hs
        obtain ⟨W1, hW1⟩ : ∃ W1, wr.alloc (.cells #[.int .i64 wh, .int .i64 tid, .int .i64 cut, .int .u64 se, .slice so q scap] 60) = W1 := ⟨_, rfl⟩
        have BW1 : Below wr.heap.size wr W1 := by rw [← hW1]; exact (Below.refl _ _).alloc (Nat.le_refl _) _
        obtain ⟨x, l, tl, m, bo1⟩ := BO.out.below BW1
        have BO1 := Lib.hid bo1
        have HB1 := Lib.hid (below_trans HB.out BW1 HB.out.size)
        have SR := Lib.hid (hsrc.below (Nat.le_refl _) BW1)
        have HU := Lib.hid hu
        have HW1 := Lib.hid hW1
        clear hW1 BW1 bo1 hsrc hu hq
        go_wp2_with fail
        rw [HW1.out]
        refine (does_any w.heap.size b c x l tl m ⟨wh, tid, cut, se, .slice so q scap, cl⟩ W1 BO1.out SR.out HU.out).mono ?_
        rintro r w5 ⟨rfl, ht, x', l', tl', m', bo5⟩
        have BO5 := Lib.hid (show BoAny w.heap.size w5 b c from ⟨_, _, _, _, bo5⟩)
        have HB5 := Lib.hid (bo_low HB1.out (Nat.le_refl _) LB.out.1 LB.out.2 ht)
        clear ht bo5 c0 c1 c2 c3 c4
        go_wp2_with fail
        go_roundw
        case rel => exact ⟨k + 1, by omega, by go_num, BO5.out, HB5.out⟩
        case measure => simp [intOf] <;> omega
      · have hge : (n : Int) ≤ k := by omega
        clear hlt
        obtain ⟨x, l, tl, m, bo3⟩ := BO.out
        have C3 := Lib.hid bo3.ce
        clear bo3 BO
        go_wp2_with fail
        refine (split_any e _ UE.out).mono ?_
        rintro r w4 ⟨rfl, hb4⟩
        unfold splitV rE
        obtain ⟨a0, ha0⟩ : ∃ a, nE e = a := ⟨_, rfl⟩
        obtain ⟨a1, ha1⟩ : ∃ a, xE e = a := ⟨_, rfl⟩
        obtain ⟨a2, ha2⟩ : ∃ a, tid0 e = a := ⟨_, rfl⟩
        obtain ⟨a3, ha3⟩ : ∃ a, clk0 e = a := ⟨_, rfl⟩
        rw [ha0, ha1, ha2, ha3]
        obtain ⟨W5, hW5⟩ : ∃ W5, w4.alloc (.cells #[.bool a0, .bool a1, .int .i64 a2, .int .i64 a3] 65) = W5 := ⟨_, rfl⟩
        have hb5 : Below w4.heap.size w4 W5 := by rw [← hW5]; exact (Below.refl _ _).alloc (Nat.le_refl _) _
        have C5 := Lib.hid ((C3.out.below hb4).below hb5)
        have B5 := Lib.hid (below_trans (below_trans HB.out hb4 HB.out.size) hb5 (Nat.le_trans HB.out.size hb4.size))
        have HW5 := Lib.hid hW5
        obtain ⟨ok, hok⟩ : ∃ ok, okE e = ok := ⟨_, rfl⟩
        rw [hok]
        have OK := Lib.hid hok
        clear hb4 hb5 hW5 ha0 ha1 ha2 ha3 hok C3 HB
        go_wp2_with fail
        rw [HW5.out]
        refine (ckv_new W5).mono ?_
        rintro r w6 ⟨cb, rfl, hk6, hb6⟩
        have C6 := Lib.hid (C5.out.below hb6)
        have K6 := Lib.hid hk6
        have B6 := Lib.hid (below_trans B5.out hb6 B5.out.size)
        clear hk6 hb6 C5 B5
        go_wp2_with fail
        cases ok with
        | false =>
          refine (cwrite_bad _ _ e w6 UE.out OK.out).mono ?_
          rintro r w7 ⟨rfl, hb7⟩
          have B7 := Lib.hid (below_trans B6.out hb7 B6.out.size)
          clear hb7
          go_wp2_with fail
          refine (races_any _).mono ?_
          rintro r w8 ⟨rfl, hb8⟩
          have B8 := Lib.hid (below_trans B7.out hb8 B7.out.size)
          clear hb8
          go_wp2_with fail
          go_ret
          exact ⟨rfl, B8.out⟩
        | true =>
          refine (ce_write C6.out e _ _ OK.out K6.out).mono ?_
          rintro r w7 ⟨rfl, ht7, hc7⟩
          obtain ⟨wv, hwv⟩ : ∃ wv, writeV x l tl e (fun _ => 0) = wv := ⟨_, rfl⟩
          rw [hwv]
          have C7 := Lib.hid hc7
          have B7 := Lib.hid (turned_low B6.out (Nat.le_refl _) C6.out.low.1 ht7)
          obtain ⟨T, hT⟩ := Int.eq_ofNat_of_zero_le HT.out.1
          subst hT
          clear hwv ht7 hc7 C6 K6 B6
          go_wp2_with fail
          go_loopw [15] (fun i wr => ∃ k : Nat, k ≤ T ∧ i = .int .i64 k ∧ (∃ l, (l = [] ∨ l = [e]) ∧ Ce w.heap.size wr b e l false) ∧ Below w.heap.size w wr) (fun i _ => T - (intOf i).toNat)
          case atStart => exact ⟨0, by omega, rfl, ⟨[], .inl rfl, C7.out⟩, B7.out⟩
          case round =>
            obtain ⟨j, hj, rfl, ⟨l7, hl7, hc8⟩, hb8⟩ := hrel
            have C8 := Lib.hid hc8
            have L7 := Lib.hid hl7
            have B8 := Lib.hid hb8
            clear hc8 hl7 hb8
            by_cases hjt : j < T
            · have hjt' : (j : Int) < (T : Int) := by omega
              go_wp2_with fail
              refine (ckv_new _).mono ?_
              rintro r w9 ⟨cb2, rfl, hk9, hb9⟩
              have C9 := Lib.hid (C8.out.below hb9)
              have K9 := Lib.hid hk9
              have B9 := Lib.hid (below_trans B8.out hb9 B8.out.size)
              clear hk9 hb9 C8 B8
              go_wp2_with fail
              refine (ce_read C9.out e _ _ OK.out K9.out).mono ?_
              rintro r w10 ⟨rfl, ht10, hc10⟩
              rw [again_known OK.out]
              rw [again_read OK.out L7.out] at hc10
              have C10 := Lib.hid hc10
              have B10 := Lib.hid (turned_low B9.out (Nat.le_refl _) C9.out.low.1 ht10)
              clear ht10 hc10 C9 K9 B9
              go_wp2_with fail
              refine (reads_q C10.out).mono ?_
              rintro r w11 ⟨v11, rfl, ho11, hb11⟩
              have C11 := Lib.hid (C10.out.below hb11)
              have B11 := Lib.hid (below_trans B10.out hb11 B10.out.size)
              obtain ⟨ao11, cap11, rfl, _, _⟩ := eps_of_owns ho11
              clear ho11 hb11 C10 B10
              go_wp2_with fail
              refine (reads_q C11.out).mono ?_
              rintro r w12 ⟨v12, rfl, ho12, hb12⟩
              have C12 := Lib.hid (C11.out.below hb12)
              have B12 := Lib.hid (below_trans B11.out hb12 B11.out.size)
              obtain ⟨ao12, cap12, rfl, _, hc12⟩ := eps_of_owns ho12
              obtain ⟨g, rfl, hg⟩ := hc12 (by simp)
              have cg := hg 0 (by simp)
              have cg2 : w12.cell? ⟨g, 0, none⟩ = some (.int .u64 e) := cg
              clear ho12 hb12 hc12 hg cg C11 B11
              go_wp2_with fail
              refine (wide_q C12.out).mono ?_
              rintro r w13 ⟨rfl, rfl⟩
              go_wp2_with fail
              go_roundw
              case rel => exact ⟨j + 1, by omega, by go_num, ⟨[e], .inr rfl, C12.out⟩, B12.out⟩
              case measure => simp [intOf] <;> omega
            · have hge2 : (T : Int) ≤ j := by omega
              clear hjt
              go_wp2_with fail
              refine (ckv_new _).mono ?_
              rintro r w9 ⟨cb2, rfl, hk9, hb9⟩
              have C9 := Lib.hid (C8.out.below hb9)
              have K9 := Lib.hid hk9
              have B9 := Lib.hid (below_trans B8.out hb9 B8.out.size)
              clear hk9 hb9 C8 B8
              go_wp2_with fail
              refine (ce_write C9.out e _ _ OK.out K9.out).mono ?_
              rintro r w10 ⟨rfl, ht10, hc10⟩
              rw [again_write OK.out L7.out]
              have C10 := Lib.hid hc10
              have B10 := Lib.hid (turned_low B9.out (Nat.le_refl _) C9.out.low.1 ht10)
              clear ht10 hc10 C9 K9 B9
              go_wp2_with fail
              refine (last_q C10.out).mono ?_
              rintro r w' ⟨rfl, rfl⟩
              go_wp2_with fail
              refine (reads_q C10.out).mono ?_
              rintro r w11 ⟨v11, rfl, ho11, hb11⟩
              have C11 := Lib.hid (C10.out.below hb11)
              have B11 := Lib.hid (below_trans B10.out hb11 B10.out.size)
              obtain ⟨ao11, cap11, rfl, _, _⟩ := eps_of_owns ho11
              clear ho11 hb11 C10 B10
              go_wp2_with fail
              refine (tailed_q C11.out).mono ?_
              rintro r w' ⟨rfl, rfl⟩
              go_wp2_with fail
              refine (races_any _).mono ?_
              rintro r w12 ⟨rfl, hb12⟩
              have B12 := Lib.hid (below_trans B11.out hb12 B11.out.size)
              clear hb12
              go_wp2_with fail
              go_ret
              exact ⟨rfl, B12.out⟩
end Go.Proofs.Ytonegedenmchbaa

