
/-
  ReportSteps.
-/
import Derived.Test.YtkcnbkdpjlpppaaRptR
import Derived.Deep.QuietTactic
import Derived.BigQuiet
namespace Go.Proofs.Ytkcnbkdpjlpppaa
open Go.RowKit
set_option linter.unusedVariables false
set_option linter.unusedSimpArgs false
set_option maxRecDepth 100000
attribute [local go_sem ↓ high] run_eqQr_self

theorem quiet_add_leftR {P : Program} {f : FuncId} {args : Array Value} {w : World} {a n : Nat} {v : Value}
    (h : Calls P f args (w.drewN (a + n)) fun e w' => e = .returned v ∧ w.drewN (a + n) = w') :
    Calls P f args (w.drewN (a + n)) fun e w'' => e = .returned v ∧ ∃ m, w'' = w.drewN (a + m) :=
  h.mono fun _ _ ⟨he, hm⟩ => ⟨he, n, hm.symm⟩
theorem quiet_leftR {P : Program} {f : FuncId} {args : Array Value} {w : World} {n : Nat} {v : Value}
    (h : Calls P f args (w.drewN n) fun e w' => e = .returned v ∧ w.drewN n = w') : Calls P f args (w.drewN n) fun e w'' => e = .returned v ∧ ∃ m, w'' = w.drewN m :=
  h.mono fun _ _ ⟨he, hm⟩ => ⟨he, n, hm.symm⟩
theorem r18_range {w : World} {d o : Nat} {m : M18} (h : R18 w d o m) : w.rangeAt d (o + 4) (ints m.rd) := by
  intro j v hj
  have hlt : j < m.rd.length := by
    rcases Nat.lt_or_ge j m.rd.length with h1 | h1
    · exact h1
    · rw [List.getElem?_eq_none (by rw [length_ints]; omega)] at hj; cases hj
  have := h.cr j (by have := h.len; omega)
  rw [getElem?_ints m.rd j hlt] at hj
  rw [this, ← hj]
theorem DoSet.low {B : Nat} {w : World} {b mb n d : Nat} {M : Int → Option Rce} {cs : Nat → Cel} {ms : Nat → M18} {rs : Nat → Qr} (h : Both B w b mb n d M cs ms rs) : ∀ i, DoSet mb cs d i → B ≤ i := by
  rintro i (hi | rfl)
  · exact h.rp.rlow i hi
  · exact h.low
theorem getD_map {L : List Rce} {k : Nat} (hk : k < L.length) : (L.map qOf).getD k default = qOf (L.getD k default) := by
  simp [List.getD, hk]

set_option maxHeartbeats 8000000 in
theorem steps_law (v : Value) (es : List RStp) (i : Int) (w : World) (h : RStpsOf w v es) (hi : (kI i).wf = true) : Calls Try.prog 5 #[v, .int .i64 i] w (LawPost w) := by
  obtain ⟨ao, cap, rfl, hc⟩ := h
  obtain ⟨n, hn⟩ : ∃ n, es.length = n := ⟨_, rfl⟩
  have HC := Lib.hid hc
  have HN := Lib.hid hn
  have HI := Lib.hid hi
  rw [hn]
  clear hc hn hi
  go_enter Try.func5, Try.ntmps5
  go_wp2_with fail
  refine (rep_new w.heap.size w (Nat.le_refl _)).mono ?_
  rintro r w1 ⟨⟨b, mb, cs, rfl, hr, hcs⟩, hB1⟩
  have B1 := Lib.hid hB1
  have R1 := Lib.hid hr
  have CS := Lib.hid hcs
  clear hr hcs hB1
  by_cases hl : 100 < n
  · have hl' : (100 : Int) < (n : Int) := by omega
    go_wp2_with fail
    refine (two_any w1).mono ?_
    rintro r w3 ⟨rfl, hb3⟩
    have B3 := Lib.hid (below_trans B1.out hb3 B1.out.size)
    clear hb3
    go_wp2_with fail
    go_ret
    exact ⟨rfl, B3.out⟩
  · have hl' : ¬ ((100 : Int) < (n : Int)) := by omega
    have NL := Lib.hid hl
    clear hl
    go_wp2_with fail
    refine (qnew_any w1).mono ?_
    rintro r w2 ⟨⟨d, rfl, hrr, hdl⟩, hB2⟩
    have B2 := Lib.hid (below_trans B1.out hB2 B1.out.size)
    have BO2 := Lib.hid (show Both w.heap.size w2 b mb 0 d (fun _ => none) cs (fun _ => m1) (fun _ => default) from
      ⟨R1.out.below hB2, hrr, fun j hj => by obtain ⟨x, l, t⟩ := CS.out j hj; rw [x, l, t]; exact rel_new, fun j hj => .inl ⟨rfl, rfl⟩, fun _ _ => rfl, Nat.le_trans B1.out.size hdl⟩)
    clear hrr hdl hB2 CS R1 B1
    go_wp2_with fail
    go_loopw [31] (fun j wr => ∃ k : Nat, k ≤ n ∧ j = .int .i64 k ∧ (∃ n' M cs ms rs, n' ≤ k ∧ Both w.heap.size wr b mb n' d M cs ms rs) ∧ Below w.heap.size w wr) (fun j _ => n - (intOf j).toNat)
    case atStart => exact ⟨0, by omega, rfl, ⟨0, _, _, _, _, by omega, BO2.out⟩, B2.out⟩
    case round =>
      obtain ⟨k, hk, rfl, ⟨n1, M1, cs1, ms1, rs1, hn1, hbo⟩, hbr⟩ := hrel
      have HB := Lib.hid hbr
      have BO := Lib.hid hbo
      have NN := Lib.hid hn1
      clear hbr hbo BO2 B2 hn1
      by_cases hlt : k < n
      · have hlt' : (k : Int) < (n : Int) := by omega
        have KM := Lib.hid (show k + 1 < maxLen from by have := NL.out; unfold maxLen; omega)
        obtain ⟨b', o, rfl, hcc⟩ := HC.out (by have := HN.out; omega)
        obtain ⟨c0, c1, c2, c3, c4, c5, c6, c7, hsrc, hu⟩ := (hcc k (by have := HN.out; omega)).below (Nat.le_refl _) HB.out
        obtain ⟨s, hs⟩ : ∃ s, es.getD k default = s := ⟨_, rfl⟩
        rw [hs] at c0 c1 c2 c3 c4 c5 c6 c7 hsrc hu
        obtain ⟨⟨sa, sb, sc, swr⟩, e, cv, cl, tid, cut⟩ := s
        dsimp only at c0 c1 c2 c3 c4 c5 c6 c7 hsrc hu
        obtain ⟨so, scap, rfl, _⟩ := id hsrc
        obtain ⟨q, hq⟩ : ∃ q, cl.length = q := ⟨_, rfl⟩
        rw [hq] at c5 hsrc
        clear hcc hs
        obtain ⟨W1, hW1⟩ : ∃ W1, wr.alloc (.cells #[.int .i64 sa, .int .i64 sb, .int .i64 sc, .bool swr, .int .u64 e, .slice so q scap, .int .i64 tid, .int .i64 cut] 51) = W1 := ⟨_, rfl⟩
        have BW1 : Below wr.heap.size wr W1 := by rw [← hW1]; exact (Below.refl _ _).alloc (Nat.le_refl _) _
        have S1 := Lib.hid (show W1.heap[wr.heap.size]? = some (.cells #[.int .i64 sa, .int .i64 sb, .int .i64 sc, .bool swr, .int .u64 e, .slice so q scap, .int .i64 tid, .int .i64 cut] 51 (0, 0)) from by rw [← hW1]; exact heap_alloc_new wr _)
        have BO1 := Lib.hid (BO.out.below BW1)
        have HB1 := Lib.hid (below_trans HB.out BW1 HB.out.size)
        have DO := rdoes_any w.heap.size b mb n1 d M1 cs1 ms1 rs1 ⟨⟨sa, sb, sc, swr⟩, e, .slice so q scap, cl, tid, cut⟩ W1 BO1.out (by have := NN.out; have := KM.out; omega) (hsrc.below (Nat.le_refl _) BW1) hu
        unfold rstpV at DO
        dsimp only at DO
        have DO1 := Lib.hid DO
        have HW1 := Lib.hid hW1
        obtain ⟨p, hp⟩ : ∃ p, wr.heap.size = p := ⟨_, rfl⟩
        rw [hp] at S1
        have HP := Lib.hid hp
        clear hW1 BW1 hsrc hu hq hp DO
        go_upto_region 8 with fail
        rw [HW1.out, HP.out]
        clear c0 c1 c2 c3 c4 c5 c6 c7
        obtain ⟨z0, z1, z2, z3, z4, z5, z6, z7⟩ := eight_cells' S1.out
        go_wp2_with fail
        refine DO1.out.mono ?_
        rintro r w5 ⟨rfl, ht5, n5, M5, cs5, ms5, rs5, hn5, bo5⟩
        have BO5 := Lib.hid bo5
        have N5 := Lib.hid (show n5 ≤ k + 1 from by have := NN.out; omega)
        have HB5 := Lib.hid (below_turned HB1.out ht5 (Nat.le_refl _) (DoSet.low BO1.out))
        clear ht5 hn5 bo5 z0 z1 z2 z3 z4 z5 z6 z7 S1
        go_wp2_with fail
        refine (rraces_any w.heap.size b mb n5 M5 cs5 w5 BO5.out.rp).mono ?_
        rintro r w6 ⟨va, rfl, hva, hb6⟩
        have BO6 := Lib.hid (BO5.out.below hb6)
        have HB6 := Lib.hid (below_trans HB5.out hb6 HB5.out.size)
        have UQ := upto_q BO5.out.rac 8 (Nat.le_refl _)
        obtain ⟨L, hL⟩ : ∃ L, upto M5 8 = L := ⟨_, rfl⟩
        rw [hL] at hva UQ
        obtain ⟨m, hm⟩ : ∃ m, L.length = m := ⟨_, rfl⟩
        obtain ⟨aa, ca, rfl⟩ := hva.shape
        rw [hm] at hva
        rw [hm]
        have VA := Lib.hid hva
        have HM := Lib.hid hm
        have UQ1 := Lib.hid UQ
        have ML := Lib.hid (show m ≤ 8 from by rw [← hm, ← hL]; exact upto_len _ _)
        clear hva hb6 hL UQ hm
        go_wp2_with fail
        refine (qraces_any d ms5 rs5 w6 BO6.out.rr).mono ?_
        rintro r w7 ⟨vb, rfl, hvb, hb7⟩
        rw [UQ1.out] at hvb
        have BO7 := Lib.hid (BO6.out.below hb7)
        have HB7 := Lib.hid (below_trans HB6.out hb7 HB6.out.size)
        have VA7 := Lib.hid (VA.out.below (Nat.le_refl _) hb7)
        obtain ⟨ab, cb, rfl⟩ := hvb.shape
        rw [List.length_map, HM.out] at hvb
        rw [List.length_map, HM.out]
        have VB7 := Lib.hid hvb
        clear hvb hb7 VA UQ1
        go_wp2_with fail
        go_loopw [51] (fun j wx => ∃ k2 : Nat, k2 ≤ m ∧ j = .int .i64 k2 ∧ Below w7.heap.size w7 wx) (fun j _ => m - (intOf j).toNat)
        case atStart => exact ⟨0, by omega, rfl, Below.refl _ _⟩
        case round =>
          obtain ⟨k2, hk2, rfl, hb8⟩ := hrel
          have B8 := Lib.hid hb8
          clear hb8
          by_cases hlt2 : k2 < m
          · have hlt2' : (k2 : Int) < (m : Int) := by omega
            have hk8 : (k2 : Int) < 8 := by have := ML.out; omega
            obtain ⟨g, o2, rfl, hqa⟩ := VA7.out.at k2 (by have := HM.out; omega)
            obtain ⟨h, o3, rfl, hqb⟩ := VB7.out.at k2 (by rw [List.length_map]; have := HM.out; omega)
            rw [getD_map (by have := HM.out; omega)] at hqb
            obtain ⟨⟨g0, g1, g2, g3, g4⟩, hg⟩ : ∃ r, L.getD k2 default = r := ⟨_, rfl⟩
            rw [hg] at hqa hqb
            unfold qOf at hqb
            have KEEP := Lib.hid (show ∀ X, Below w7.heap.size w7 X → (X.cell? ⟨g, o2 + k2 * 5, none⟩ = some (.int .i64 g0) ∧ X.cell? ⟨g, o2 + k2 * 5 + 1, none⟩ = some (.int .i64 g1) ∧ X.cell? ⟨g, o2 + k2 * 5 + 2, none⟩ = some (.int .i64 g2) ∧ X.cell? ⟨g, o2 + k2 * 5 + 3, none⟩ = some (.int .i64 g3) ∧ X.cell? ⟨g, o2 + k2 * 5 + 4, none⟩ = some (.bool g4)) ∧
              X.cell? ⟨h, o3 + k2 * 6, none⟩ = some (.bool true) ∧ X.cell? ⟨h, o3 + k2 * 6 + 1, none⟩ = some (.int .i64 g0) ∧ X.cell? ⟨h, o3 + k2 * 6 + 2, none⟩ = some (.int .i64 g1) ∧ X.cell? ⟨h, o3 + k2 * 6 + 3, none⟩ = some (.int .i64 g2) ∧ X.cell? ⟨h, o3 + k2 * 6 + 4, none⟩ = some (.int .i64 g3) ∧ X.cell? ⟨h, o3 + k2 * 6 + 5, none⟩ = some (.bool g4) from fun X hX => by
                obtain ⟨x0, x1, x2, x3, x4⟩ := hqa.below (Nat.le_refl _) hX
                obtain ⟨y0, y1, y2, y3, y4, y5⟩ := hqb.below (Nat.le_refl _) hX
                exact ⟨⟨x0, x1, x2, x3, x4⟩, y0, y1, y2, y3, y4, y5⟩)
            have RA := fun X => race_any ⟨g0, g1, g2, g3, g4⟩ X
            unfold rcV qrV qOf RetB at RA
            dsimp only at RA
            have RA1 := Lib.hid RA
            obtain ⟨⟨x0, x1, x2, x3, x4⟩, y0, y1, y2, y3, y4, y5⟩ := KEEP.out wr B8.out
            clear hqa hqb hg RA
            go_wp2_with fail
            go_region_held3 (fun w' => (w'.cell? ⟨g, o2 + k2 * 5, none⟩ = some (.int .i64 g0) ∧ w'.cell? ⟨g, o2 + k2 * 5 + 1, none⟩ = some (.int .i64 g1) ∧ w'.cell? ⟨g, o2 + k2 * 5 + 2, none⟩ = some (.int .i64 g2) ∧ w'.cell? ⟨g, o2 + k2 * 5 + 3, none⟩ = some (.int .i64 g3) ∧ w'.cell? ⟨g, o2 + k2 * 5 + 4, none⟩ = some (.bool g4)) ∧ w'.cell? ⟨h, o3 + k2 * 6, none⟩ = some (.bool true) ∧ w'.cell? ⟨h, o3 + k2 * 6 + 1, none⟩ = some (.int .i64 g0) ∧ w'.cell? ⟨h, o3 + k2 * 6 + 2, none⟩ = some (.int .i64 g1) ∧ w'.cell? ⟨h, o3 + k2 * 6 + 3, none⟩ = some (.int .i64 g2) ∧ w'.cell? ⟨h, o3 + k2 * 6 + 4, none⟩ = some (.int .i64 g3) ∧ w'.cell? ⟨h, o3 + k2 * 6 + 5, none⟩ = some (.bool g4)) (go_keep)
              (first | (go_at_call 19; (with_reducible refine (RA1.out _).mono ?_); rintro r w9 ⟨rfl, hb9⟩; have hb9' := below_drew hb9; have B9 := Lib.hid (below_trans B8.out hb9' B8.out.size); obtain ⟨⟨u0, u1, u2, u3, u4⟩, v0, v1, v2, v3, v4, v5⟩ := KEEP.out w9 B9.out; clear hb9 hb9'))
            go_wp2_with fail
            go_roundw
            case rel => exact ⟨k2 + 1, by omega, by go_num, B9.out⟩
            case measure => simp [intOf] <;> omega
          · have hge2 : (m : Int) ≤ k2 := by omega
            clear hlt2
            have BO8 := Lib.hid (BO7.out.below B8.out)
            have HB8 := Lib.hid (below_trans HB7.out B8.out HB7.out.size)
            have F1 := Lib.hid (rfirst_any w.heap.size b mb n5 M5 cs5 i wr BO8.out.rp HI.out)
            obtain ⟨s1, hs1⟩ : ∃ s, (M5 i).isSome = s := ⟨_, rfl⟩
            obtain ⟨⟨g0, g1, g2, g3, g4⟩, hr0⟩ : ∃ r0, (M5 i).getD rce0 = r0 := ⟨_, rfl⟩
            rw [hs1, hr0] at F1
            unfold rcV at F1
            dsimp only at F1
            have HS1 := Lib.hid hs1
            have HR0 := Lib.hid hr0
            clear hs1 hr0
            go_wp2_with fail
            refine F1.out.mono ?_
            rintro r w9 ⟨rfl, hb9⟩
            obtain ⟨W9, hW9⟩ : ∃ W, w9.alloc (.cells #[.int .i64 g0, .int .i64 g1, .int .i64 g2, .int .i64 g3, .bool g4] 38) = W := ⟨_, rfl⟩
            have BW9 : Below wr.heap.size wr W9 := by rw [← hW9]; exact hb9.alloc hb9.size _
            have X9 := Lib.hid (show W9.heap[w9.heap.size]? = some (.cells #[.int .i64 g0, .int .i64 g1, .int .i64 g2, .int .i64 g3, .bool g4] 38 (0, 0)) from by rw [← hW9]; exact heap_alloc_new w9 _)
            have BO9 := Lib.hid (BO8.out.below BW9)
            have HB9 := Lib.hid (below_trans HB8.out BW9 HB8.out.size)
            have HW9 := Lib.hid hW9
            obtain ⟨p12, hp12⟩ : ∃ p, w9.heap.size = p := ⟨_, rfl⟩
            rw [hp12] at X9
            have HP12 := Lib.hid hp12
            obtain ⟨ic, hic⟩ : ∃ ic, isC i = ic := ⟨_, rfl⟩
            have HIC := Lib.hid hic
            have ICW := Lib.hid (show (ic = false ∧ ¬ 0 ≤ i) ∨ (ic = false ∧ 0 ≤ i ∧ ¬ i < 8) ∨ (ic = true ∧ 0 ≤ i ∧ i < 8) from by
              by_cases h1 : 0 ≤ i
              · by_cases h2 : i < 8
                · exact .inr (.inr ⟨by rw [← hic]; exact decide_eq_true ⟨h1, h2⟩, h1, h2⟩)
                · exact .inr (.inl ⟨by rw [← hic]; exact decide_eq_false (by omega), h1, h2⟩)
              · exact .inl ⟨by rw [← hic]; exact decide_eq_false (by omega), h1⟩)
            clear hb9 hW9 BW9 hp12 hic
            go_upto_region 21 with fail
            rw [HW9.out, HP12.out]
            go_cut [14] (fun s wx => s = .bool ic ∧ wx = W9)
            case first =>
              rcases ICW.out with ⟨rfl, h1⟩ | ⟨rfl, h1, h2⟩ | ⟨rfl, h1, h2⟩
              all_goals
                go_wp2_with fail
                go_meet
                exact ⟨by simp [*], rfl⟩
            case rest =>
              obtain ⟨rfl, rfl⟩ := hcut
              have CE := Lib.hid (fun X (hX : Below wc.heap.size wc X) => rcell_any w.heap.size b mb n5 M5 cs5 i X (BO9.out.rp.below hX))
              rw [HIC.out] at CE
              cases ic with
              | false =>
                have hM : M5 i = none := BO9.out.out i HIC.out
                have e1 : s1 = false := by rw [← HS1.out, hM]; rfl
                subst e1
                simp only [Bool.false_eq_true, if_false] at CE
                have CE0 := Lib.hid (fun m => CE.out (wc.drewN m) (below_drewN (Below.refl _ _) m))
                go_wp2_with fail
                go_quiet ((go_at_call 12; first | exact quiet_leftR (CE0.out _) | exact quiet_add_leftR (CE0.out _)))
                go_wp2_with fail
                go_quiet (fail)
                go_wp2_with fail
                go_roundw
                case rel => exact ⟨k + 1, by omega, by go_num, ⟨n5, M5, cs5, ms5, rs5, N5.out, BO9.out.below (below_drewN (Below.refl _ _) _)⟩, below_drewN HB9.out _⟩
                case measure => simp [intOf] <;> omega
              | true =>
                obtain ⟨i0, i8⟩ := of_decide_eq_true HIC.out
                obtain ⟨j, rfl⟩ := Int.eq_ofNat_of_zero_le i0
                have hj8 : j < 8 := by omega
                simp only [if_true, Int.toNat_natCast] at CE
                obtain ⟨r0, r1, r2, r3, r4, r5⟩ := BO9.out.rr.r j hj8
                obtain ⟨W9, hW9⟩ : ∃ W, wc = W := ⟨_, rfl⟩
                have hW9' := hW9.symm
                clear hW9
                subst hW9'
                go_upto_region 22 with fail
                go_cut [110] (fun s wx => s = .bool false ∧ Below W9.heap.size W9 wx)
                case first =>
                  rcases BO9.out.rac j hj8 with ⟨hM, hth⟩ | ⟨rc, hM, hq⟩
                  · have e1 : s1 = false := by rw [← HS1.out, hM]; rfl
                    subst e1
                    rw [hth] at r0
                    have CE0 := Lib.hid (fun m => CE.out (W9.drewN m) (below_drewN (Below.refl _ _) m))
                    go_quiet ((go_at_call 12; first | exact quiet_leftR (CE0.out _) | exact quiet_add_leftR (CE0.out _)))
                    go_wp2_with fail
                    go_meet
                    exact ⟨rfl, below_drewN (Below.refl _ _) _⟩
                  · have e1 : s1 = true := by rw [← HS1.out, hM]; rfl
                    have e2 := HR0.out
                    rw [hM] at e2
                    simp only [Option.getD_some] at e2
                    subst e1 e2
                    rw [hq] at r0 r1 r2 r3 r4 r5
                    unfold qOf at r0 r1 r2 r3 r4 r5
                    dsimp only at r0 r1 r2 r3 r4 r5
                    have KEEP := Lib.hid (show ∀ X, Below W9.heap.size W9 X → (X.cell? ⟨p12, 0, none⟩ = some (.int .i64 g0) ∧ X.cell? ⟨p12, 1, none⟩ = some (.int .i64 g1) ∧ X.cell? ⟨p12, 2, none⟩ = some (.int .i64 g2) ∧ X.cell? ⟨p12, 3, none⟩ = some (.int .i64 g3) ∧ X.cell? ⟨p12, 4, none⟩ = some (.bool g4)) ∧
                      X.cell? ⟨d, 2088 + j * 6, none⟩ = some (.bool true) ∧ X.cell? ⟨d, 2088 + j * 6 + 1, none⟩ = some (.int .i64 g0) ∧ X.cell? ⟨d, 2088 + j * 6 + 2, none⟩ = some (.int .i64 g1) ∧ X.cell? ⟨d, 2088 + j * 6 + 3, none⟩ = some (.int .i64 g2) ∧ X.cell? ⟨d, 2088 + j * 6 + 4, none⟩ = some (.int .i64 g3) ∧ X.cell? ⟨d, 2088 + j * 6 + 5, none⟩ = some (.bool g4) from fun X hX => by
                        have hx := five_cells ((hX.block _ (lt_of_heap X9.out)).trans X9.out)
                        have hy := (BO9.out.rr.below hX).r j hj8
                        rw [hq] at hy
                        obtain ⟨y0, y1, y2, y3, y4, y5⟩ := hy
                        exact ⟨hx, y0, y1, y2, y3, y4, y5⟩)
                    have RA := fun X => race_any ⟨g0, g1, g2, g3, g4⟩ X
                    unfold rcV qrV qOf RetB at RA
                    dsimp only at RA
                    have RA1 := Lib.hid RA
                    have WB := Lib.hid (Below.refl W9.heap.size W9)
                    obtain ⟨⟨x0, x1, x2, x3, x4⟩, -⟩ := KEEP.out W9 WB.out
                    clear RA hq hM
                    go_region_held3 (fun w' => (w'.cell? ⟨p12, 0, none⟩ = some (.int .i64 g0) ∧ w'.cell? ⟨p12, 1, none⟩ = some (.int .i64 g1) ∧ w'.cell? ⟨p12, 2, none⟩ = some (.int .i64 g2) ∧ w'.cell? ⟨p12, 3, none⟩ = some (.int .i64 g3) ∧ w'.cell? ⟨p12, 4, none⟩ = some (.bool g4)) ∧ w'.cell? ⟨d, 2088 + j * 6, none⟩ = some (.bool true) ∧ w'.cell? ⟨d, 2088 + j * 6 + 1, none⟩ = some (.int .i64 g0) ∧ w'.cell? ⟨d, 2088 + j * 6 + 2, none⟩ = some (.int .i64 g1) ∧ w'.cell? ⟨d, 2088 + j * 6 + 3, none⟩ = some (.int .i64 g2) ∧ w'.cell? ⟨d, 2088 + j * 6 + 4, none⟩ = some (.int .i64 g3) ∧ w'.cell? ⟨d, 2088 + j * 6 + 5, none⟩ = some (.bool g4)) (go_keep)
                      (first | (go_at_call 12; (with_reducible refine (CE.out _ (WB.out.drew)).mono ?_); rintro r w' ⟨rfl, rfl⟩) | (go_at_call 19; (with_reducible refine (RA1.out _).mono ?_); rintro r w9 ⟨rfl, hb9⟩; have hb9' := below_drew hb9; have B9 := Lib.hid hb9'; obtain ⟨⟨u0, u1, u2, u3, u4⟩, v0, v1, v2, v3, v4, v5⟩ := KEEP.out w9 hb9'; clear hb9 hb9'))
                    go_wp2_with fail
                    go_meet
                    exact ⟨rfl, B9.out⟩
                case rest =>
                  obtain ⟨rfl, hb10⟩ := hcut
                  have BO10 := Lib.hid (BO9.out.below hb10)
                  have HB10 := Lib.hid (below_trans HB9.out hb10 HB9.out.size)
                  clear hb10 r0 r1 r2 r3 r4 r5
                  obtain ⟨W10, hW10⟩ : ∃ W, wc = W := ⟨_, rfl⟩
                  have hW10' := hW10.symm
                  clear hW10
                  subst hW10'
                  have CE2 := Lib.hid (fun X (hX : Below W10.heap.size W10 X) => rcell_any w.heap.size b mb n5 M5 cs5 j X (BO10.out.rp.below hX))
                  rw [HIC.out] at CE2
                  simp only [if_true, Int.toNat_natCast] at CE2
                  have RDS := Lib.hid (fun X (hX : Below W10.heap.size W10 X) => by
                    have hce := (BO10.out.rp.below hX).ce j hj8
                    obtain ⟨⟨vv, k1⟩, k2, _⟩ := hce
                    exact reads_any k1 (Nat.le_trans k2.len (by decide)))
                  have NZ := nz_len (BO10.out.rel j hj8).r (BO10.out.rp.ce j hj8).2.1.srt
                  have hlr := (BO10.out.rel j hj8).r.len
                  have KR := Lib.hid (fun X (hX : Below W10.heap.size W10 X) => r18_range ((BO10.out.rr.below hX).c j hj8))
                  obtain ⟨Z, hZ⟩ : ∃ Z, (ints zeros).toArray = Z := ⟨_, rfl⟩
                  have hz66 := (zero_of_info info66).1
                  have hs66 := (zero_of_info info66).2
                  rw [hZ] at hz66
                  have EQ := fun X => run_neq_reads (ms5 j).rd hlr Z hZ X
                  obtain ⟨rd, hrd⟩ : ∃ rd, (ms5 j).rd = rd := ⟨_, rfl⟩
                  rw [hrd] at NZ hlr KR EQ
                  have hs : (Try.prog.info? 66).map (·.size) = some (ints rd).length := by rw [hs66, length_ints, hlr]
                  have hu66 := Try.underlying66
                  obtain ⟨nl, hnl⟩ : ∃ nl, (cs5 j).l.length = nl := ⟨_, rfl⟩
                  rw [hnl] at NZ
                  have HNL := Lib.hid hnl
                  have WB := Lib.hid (Below.refl W10.heap.size W10)
                  have rg := KR.out W10 WB.out
                  clear hs66 hZ hrd hnl hlr
                  cases hB : nzB rd with
                  | true =>
                    rw [hB] at NZ EQ
                    have hn0 : (0 : Int) < nl := by have := of_decide_eq_true NZ; omega
                    clear hB
                    go_upto_region 24 with fail
                    go_region_held3 (fun w' => w'.rangeAt d (j * 261 + 4) (ints rd)) (first | assumption | go_keep)
                      (first | (go_at_call 12; (with_reducible refine (CE2.out _ (WB.out.drew)).mono ?_); rintro r w' ⟨rfl, rfl⟩) | (go_at_call 20; (with_reducible refine (RDS.out _ (WB.out.drew)).mono ?_); rintro r w11 ⟨vv, rfl, ho11, hb11⟩; rw [HNL.out] at ho11; obtain ⟨a11, c11, rfl⟩ := rown_slice ho11; have hb11' := below_drew hb11; have B11 := Lib.hid hb11'; have rg11 := KR.out w11 hb11'; clear ho11 hb11 hb11'))
                    go_wp2_with fail
                    go_roundw
                    case rel => exact ⟨k + 1, by omega, by go_num, ⟨n5, _, _, _, _, N5.out, BO10.out.below B11.out⟩, below_trans HB10.out B11.out HB10.out.size⟩
                    case measure => simp [intOf] <;> omega
                  | false =>
                    rw [hB] at NZ EQ
                    have hn0 : ¬ (0 : Int) < nl := by have := of_decide_eq_false NZ; omega
                    clear hB
                    go_upto_region 24 with fail
                    go_region_held3 (fun w' => w'.rangeAt d (j * 261 + 4) (ints rd)) (first | assumption | go_keep)
                      (first | (go_at_call 12; (with_reducible refine (CE2.out _ (WB.out.drew)).mono ?_); rintro r w' ⟨rfl, rfl⟩) | (go_at_call 20; (with_reducible refine (RDS.out _ (WB.out.drew)).mono ?_); rintro r w11 ⟨vv, rfl, ho11, hb11⟩; rw [HNL.out] at ho11; obtain ⟨a11, c11, rfl⟩ := rown_slice ho11; have hb11' := below_drew hb11; have B11 := Lib.hid hb11'; have rg11 := KR.out w11 hb11'; clear ho11 hb11 hb11'))
                    go_wp2_with fail
                    go_roundw
                    case rel => exact ⟨k + 1, by omega, by go_num, ⟨n5, _, _, _, _, N5.out, BO10.out.below B11.out⟩, below_trans HB10.out B11.out HB10.out.size⟩
                    case measure => simp [intOf] <;> omega
      · have hge : (n : Int) ≤ k := by omega
        clear hlt
        go_wp2_with fail
        refine (two_any _).mono ?_
        rintro e w3 ⟨rfl, hb3⟩
        have B3 := Lib.hid (below_trans HB.out hb3 HB.out.size)
        clear hb3
        go_wp2_with fail
        go_ret
        exact ⟨rfl, B3.out⟩
end Go.Proofs.Ytkcnbkdpjlpppaa

