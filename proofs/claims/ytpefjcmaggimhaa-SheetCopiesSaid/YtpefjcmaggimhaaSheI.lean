
/-
  staitheplain: Script.
-/
import Derived.Test.YtpefjcmaggimhaaSheH
namespace Go.Proofs.Ytpefjcmaggimhaa
open Go.RowKit
set_option linter.unusedVariables false
set_option linter.unusedSimpArgs false
set_option maxRecDepth 100000

theorem listO_ext {p p' : List Opn} (hl : p.length = p'.length) (h : ∀ j, j < p.length → p.getD j default = p'.getD j default) : p = p' := by
  apply List.ext_getElem hl
  intro i h1 h2
  have := h i h1
  rw [List.getD_eq_getElem?_getD, List.getElem?_eq_getElem h1, List.getD_eq_getElem?_getD, List.getElem?_eq_getElem h2] at this
  simpa using this
theorem listP_ext {p p' : List (List Opn)} (hl : p.length = p'.length) (h : ∀ j, j < p.length → p.getD j [] = p'.getD j []) : p = p' := by
  apply List.ext_getElem hl
  intro i h1 h2
  have := h i h1
  rw [List.getD_eq_getElem?_getD, List.getElem?_eq_getElem h1, List.getD_eq_getElem?_getD, List.getElem?_eq_getElem h2] at this
  simpa using this
def CsN (ps : List (List Opn)) : Prop := ∀ k, k < ps.length → ∀ j, j < (ps.getD k []).length → ((ps.getD k []).getD j default).cs.length ≤ 1000000

set_option maxHeartbeats 8000000 in
theorem script_any (ap al ad bp bl bd : Value) (s s' : Scr) (w : World) (h : ScrAt w ap al ad s) (h' : ScrAt w bp bl bd s') (hN : ScrN s) (hN' : ScrN s') (hC : CsN s.ps) :
    Calls Try.prog 16 #[scrV ap al ad s, scrV bp bl bd s'] w fun r w' => r = .returned (.bool (decide (s = s'))) ∧ Below w.heap.size w w' := by
  have hp := h.p
  have hl := h.l
  have hd := h.d
  have hp' := h'.p
  have hl' := h'.l
  have hd' := h'.d
  have HN := Lib.hid hN
  have HC := Lib.hid hC
  obtain ⟨t, m, ps, pl, dr⟩ := s
  obtain ⟨t', m', ps', pl', dr'⟩ := s'
  have I1 := fun X hX => ints_any al bl pl pl' X (slI_below hl (Nat.le_refl _) hX) (slI_below hl' (Nat.le_refl _) hX) (by have := hN.l; dsimp only at this ⊢; omega) (by have := hN'.l; dsimp only at this ⊢; omega)
  have I2 := fun X hX => ints_any ad bd dr dr' X (slI_below hd (Nat.le_refl _) hX) (slI_below hd' (Nat.le_refl _) hX) (by have := hN.d; dsimp only at this ⊢; omega) (by have := hN'.d; dsimp only at this ⊢; omega)
  have NP : ps.length ≤ 1000000 := hN.p
  unfold scrV scrC
  dsimp only at h h' hp hl hd hp' hl' hd' I1 I2 HC ⊢
  obtain ⟨xp, cp, rfl⟩ := hp.shape
  obtain ⟨xl, cl, rfl⟩ := slI_shape hl
  obtain ⟨xd, cd, rfl⟩ := slI_shape hd
  obtain ⟨yp, ep, rfl⟩ := hp'.shape
  obtain ⟨yl, el, rfl⟩ := slI_shape hl'
  obtain ⟨yd, ed, rfl⟩ := slI_shape hd'
  obtain ⟨np, hnp⟩ : ∃ n, ps.length = n := ⟨_, rfl⟩
  obtain ⟨nl, hnl⟩ : ∃ n, pl.length = n := ⟨_, rfl⟩
  obtain ⟨nd, hnd⟩ : ∃ n, dr.length = n := ⟨_, rfl⟩
  obtain ⟨np', hnp'⟩ : ∃ n, ps'.length = n := ⟨_, rfl⟩
  obtain ⟨nl', hnl'⟩ : ∃ n, pl'.length = n := ⟨_, rfl⟩
  obtain ⟨nd', hnd'⟩ : ∃ n, dr'.length = n := ⟨_, rfl⟩
  rw [hnp] at hp NP
  rw [hnp'] at hp'
  rw [hnl, hnl'] at I1
  rw [hnd, hnd'] at I2
  rw [hnp, hnl, hnd, hnp', hnl', hnd']
  obtain ⟨y, hy⟩ : ∃ y, decide ((⟨t, m, ps, pl, dr⟩ : Scr) = ⟨t', m', ps', pl', dr'⟩) = y := ⟨_, rfl⟩
  rw [hy]
  have YF := Lib.hid (show ¬ (t = t' ∧ m = m' ∧ ps = ps' ∧ pl = pl' ∧ dr = dr') → y = false from fun hh => by
    rw [← hy]; apply decide_eq_false; intro e; injection e with e1 e2 e3 e4 e5; exact hh ⟨e1, e2, e3, e4, e5⟩)
  have YT := Lib.hid (show t = t' → m = m' → ps = ps' → pl = pl' → dr = dr' → y = true from fun e1 e2 e3 e4 e5 => by
    rw [← hy]; apply decide_eq_true; rw [e1, e2, e3, e4, e5])
  obtain ⟨W1, hW1⟩ : ∃ W, w.alloc (.cells #[.int .i64 t, .int .i64 m, .slice xp np cp, .slice xl nl cl, .slice xd nd cd] 25) = W := ⟨_, rfl⟩
  obtain ⟨W2, hW2⟩ : ∃ W, W1.alloc (.cells #[.int .i64 t', .int .i64 m', .slice yp np' ep, .slice yl nl' el, .slice yd nd' ed] 25) = W := ⟨_, rfl⟩
  obtain ⟨b1, x1⟩ := five_new hW1
  obtain ⟨b2, x2⟩ := five_new hW2
  have hs : W1.heap.size = w.heap.size + 1 := by rw [← hW1, World.size_alloc]
  have hb := below_trans b1 b2 b1.size
  have x3 := (b2.block _ (lt_of_heap x1)).trans x1
  obtain ⟨q, hq⟩ : ∃ q, w.heap.size = q := ⟨_, rfl⟩
  rw [hs] at x2
  rw [hq] at x2 x3
  have KEEP := Lib.hid (show ∀ X, Below W2.heap.size W2 X → (X.cell? ⟨q, 2, none⟩ = some (.slice xp np cp) ∧ X.cell? ⟨q, 3, none⟩ = some (.slice xl nl cl) ∧ X.cell? ⟨q, 4, none⟩ = some (.slice xd nd cd)) ∧ X.cell? ⟨q + 1, 2, none⟩ = some (.slice yp np' ep) ∧ X.cell? ⟨q + 1, 3, none⟩ = some (.slice yl nl' el) ∧ X.cell? ⟨q + 1, 4, none⟩ = some (.slice yd nd' ed) from fun X hX => by
    obtain ⟨_, _, u2, u3, u4⟩ := five_cells ((hX.block _ (lt_of_heap x3)).trans x3)
    obtain ⟨_, _, v2, v3, v4⟩ := five_cells ((hX.block _ (lt_of_heap x2)).trans x2)
    exact ⟨⟨u2, u3, u4⟩, v2, v3, v4⟩)
  obtain ⟨z0, z1, z2, z3, z4⟩ := five_cells x3
  obtain ⟨y0, y1, y2, y3, y4⟩ := five_cells x2
  have B2 := Lib.hid hb
  have HQ := Lib.hid hq
  have HW1 := Lib.hid hW1
  have HW2 := Lib.hid hW2
  have HP := Lib.hid hp
  have HP' := Lib.hid hp'
  have HNP := Lib.hid hnp
  have HNP' := Lib.hid hnp'
  have II1 := Lib.hid I1
  have II2 := Lib.hid I2
  clear h h' hN hN' hC hp hl hd hp' hl' hd' hnp hnl hnd hnp' hnl' hnd' hy hW1 hW2 b1 b2 x1 x2 hs hb x3 hq I1 I2
  go_enter Try.func16, Try.ntmps16
  go_upto_region 1 with fail
  rw [HW1.out, HW2.out, HQ.out]
  by_cases ht : t = t'
  · subst ht
    by_cases hm : m = m'
    · subst hm
      by_cases hnn : np = np'
      · subst hnn
        go_wp2_with fail
        refine (II1.out W2 B2.out).mono ?_
        rintro r w3 ⟨rfl, n3, hw3⟩
        have B3 := Lib.hid (show Below W2.heap.size W2 w3 from by rw [hw3]; exact below_drewN (Below.refl _ _) n3)
        clear hw3 z0 z1 z2 z3 z4 y0 y1 y2 y3 y4
        obtain ⟨⟨z2, z3, z4⟩, y2, y3, y4⟩ := KEEP.out w3 B3.out
        by_cases hpl : pl = pl'
        · have d1 : decide (pl = pl') = true := decide_eq_true hpl
          rw [d1]
          go_wp2_with fail
          refine (II2.out w3 (below_trans B2.out B3.out B2.out.size)).mono ?_
          rintro r w4 ⟨rfl, n4, hw4⟩
          have B4 := Lib.hid (show Below W2.heap.size W2 w4 from by rw [hw4]; exact below_drewN B3.out n4)
          clear hw4 z2 z3 z4 y2 y3 y4 d1
          obtain ⟨⟨z2, z3, z4⟩, y2, y3, y4⟩ := KEEP.out w4 B4.out
          by_cases hdr : dr = dr'
          · have d2 : decide (dr = dr') = true := decide_eq_true hdr
            rw [d2]
            have PLD := Lib.hid (show pl = pl' ∧ dr = dr' from ⟨hpl, hdr⟩)
            clear d2 hpl hdr
            go_wp2_with fail
            go_loopw [47] (fun i wr => ∃ k : Nat, k ≤ np ∧ i = .int .i64 k ∧ (∀ e, e < k → ps.getD e [] = ps'.getD e []) ∧ Below W2.heap.size W2 wr) (fun i _ => np - (intOf i).toNat)
            case atStart => exact ⟨0, by omega, rfl, fun e he => by omega, B4.out⟩
            case round =>
              obtain ⟨k, hk, rfl, hok, hbr⟩ := hrel
              have OK := Lib.hid hok
              have BR := Lib.hid hbr
              clear hok hbr z2 z3 z4 y2 y3 y4
              by_cases hlt : k < np
              · have hlt' : (k : Int) < (np : Int) := by omega
                have BW := Lib.hid (below_trans B2.out BR.out B2.out.size)
                obtain ⟨b1, o1, u1, rfl, c1, hu1⟩ := (HP.out.below (Nat.le_refl _) BW.out).at k (by have := HNP.out; omega)
                obtain ⟨b2, o2, u2, rfl, c2, hu2⟩ := (HP'.out.below (Nat.le_refl _) BW.out).at k (by have := HNP'.out; omega)
                obtain ⟨au1, cu1, rfl⟩ := hu1.shape
                obtain ⟨au2, cu2, rfl⟩ := hu2.shape
                have NM := Lib.hid (show (ps.getD k []).length ≤ 1000000 from HN.out.o k (by have := HNP.out; dsimp only; omega))
                have NC := Lib.hid (HC.out k (by have := HNP.out; omega))
                obtain ⟨p, hpp⟩ : ∃ p, ps.getD k [] = p := ⟨_, rfl⟩
                obtain ⟨p', hpp'⟩ : ∃ p, ps'.getD k [] = p := ⟨_, rfl⟩
                rw [hpp] at c1 hu1 NM NC
                rw [hpp'] at c2 hu2
                have HPP := Lib.hid hpp
                have HPP' := Lib.hid hpp'
                obtain ⟨nm, hnm⟩ : ∃ n, p.length = n := ⟨_, rfl⟩
                obtain ⟨nm', hnm'⟩ : ∃ n, p'.length = n := ⟨_, rfl⟩
                rw [hnm] at c1 hu1 NM
                rw [hnm'] at c2 hu2
                have HNM := Lib.hid hnm
                have HNM' := Lib.hid hnm'
                have HU1 := Lib.hid hu1
                have HU2 := Lib.hid hu2
                have KE2 := Lib.hid (show ∀ X, Below wr.heap.size wr X → (X.cell? ⟨q, 2, none⟩ = some (.slice (some ⟨b1, o1, none⟩) np cp) ∧ X.cell? ⟨q + 1, 2, none⟩ = some (.slice (some ⟨b2, o2, none⟩) np ep)) ∧ X.cell? ⟨b1, o1 + k, none⟩ = some (.slice au1 nm cu1) ∧ X.cell? ⟨b2, o2 + k, none⟩ = some (.slice au2 nm' cu2) from fun X hX => by
                  obtain ⟨⟨r2, _, _⟩, s2, _, _⟩ := KEEP.out X (below_trans BR.out hX BR.out.size)
                  exact ⟨⟨r2, s2⟩, (hX.cell (p := ⟨b1, o1 + k, none⟩) (block_lt_of_cell c1)).trans c1, (hX.cell (p := ⟨b2, o2 + k, none⟩) (block_lt_of_cell c2)).trans c2⟩)
                clear hpp hpp' hnm hnm' hu1 hu2 c1 c2
                obtain ⟨⟨z2, y2⟩, c1, c2⟩ := KE2.out wr (Below.refl _ _)
                by_cases hmm : nm = nm'
                · subst hmm
                  go_wp2_with fail
                  go_quiet (fail)
                  obtain ⟨W5, hW5⟩ : ∃ W, wr.drewN nq = W := ⟨_, rfl⟩
                  rw [hW5]
                  have B5 := Lib.hid (show Below wr.heap.size wr W5 from by rw [← hW5]; exact below_drewN (Below.refl _ _) nq)
                  clear hW5 z2 y2 c1 c2
                  obtain ⟨⟨z2, y2⟩, c1, c2⟩ := KE2.out W5 B5.out
                  go_wp2_with fail
                  go_loopw [69] (fun i wx => ∃ j : Nat, j ≤ nm ∧ i = .int .i64 j ∧ (∀ e, e < j → p.getD e default = p'.getD e default) ∧ Below wr.heap.size wr wx) (fun i _ => nm - (intOf i).toNat)
                  case atStart => exact ⟨0, by omega, rfl, fun e he => by omega, B5.out⟩
                  case round =>
                    obtain ⟨j, hj, rfl, hok2, hb6⟩ := hrel
                    have OK2 := Lib.hid hok2
                    have B6 := Lib.hid hb6
                    have BR2 := Lib.hid (below_trans BR.out hb6 BR.out.size)
                    have BW2 := Lib.hid (below_trans BW.out hb6 BW.out.size)
                    clear hok2 hb6 z2 y2 c1 c2
                    have nmb := NM.out
                    by_cases hlt2 : j < nm
                    · have hlt2' : (j : Int) < (nm : Int) := by omega
                      obtain ⟨g1, f1, rfl, hop1⟩ := (HU1.out.below (Nat.le_refl _) B6.out).at j (by have := HNM.out; omega)
                      obtain ⟨g2, f2, rfl, hop2⟩ := (HU2.out.below (Nat.le_refl _) B6.out).at j (by have := HNM'.out; omega)
                      obtain ⟨v1, ⟨d0, d1, d2, d3, d4⟩, hcs1⟩ := opc_cells hop1
                      obtain ⟨v2, ⟨e0, e1, e2, e3, e4⟩, hcs2⟩ := opc_cells hop2
                      have NCJ := NC.out j (by have := HNM.out; omega)
                      obtain ⟨x1, hx1⟩ : ∃ x, p.getD j default = x := ⟨_, rfl⟩
                      obtain ⟨x2, hx2⟩ : ∃ x, p'.getD j default = x := ⟨_, rfl⟩
                      rw [hx1] at d0 d1 d2 d4 hcs1 NCJ
                      rw [hx2] at e0 e1 e2 e4 hcs2
                      have HX1 := Lib.hid hx1
                      have HX2 := Lib.hid hx2
                      have OP := fun X (hX : Below wr.heap.size wr X) => op_any x1 x2 v1 v2 X (hcs1.below (Nat.le_refl _) hX) (hcs2.below (Nat.le_refl _) hX) NCJ
                      obtain ⟨z, hz⟩ : ∃ z, decide (x1 = x2) = z := ⟨_, rfl⟩
                      rw [hz] at OP
                      have HZ := Lib.hid hz
                      obtain ⟨xk, xa, xb, xcs, xdf⟩ := x1
                      obtain ⟨uk, ua, ub, ucs, udf⟩ := x2
                      obtain ⟨ac1, cc1, rfl⟩ := hcs1.shape
                      obtain ⟨ac2, cc2, rfl⟩ := hcs2.shape
                      dsimp only at d0 d1 d2 d3 d4 e0 e1 e2 e3 e4 OP
                      unfold opV at OP
                      dsimp only at OP
                      obtain ⟨nc1, hnc1⟩ : ∃ n, xcs.length = n := ⟨_, rfl⟩
                      obtain ⟨nc2, hnc2⟩ : ∃ n, ucs.length = n := ⟨_, rfl⟩
                      rw [hnc1, hnc2] at OP
                      rw [hnc1] at d3
                      rw [hnc2] at e3
                      have OP1 := Lib.hid OP
                      have WB := Lib.hid (Below.refl wr.heap.size wr)
                      obtain ⟨⟨z2, y2⟩, c1, c2⟩ := KE2.out wr B6.out
                      clear hx1 hx2 hz hop1 hop2 hcs1 hcs2 NCJ OP hnc1 hnc2
                      go_wp2_with fail
                      go_region_held3 (fun w' => (w'.cell? ⟨q, 2, none⟩ = some (.slice (some ⟨b1, o1, none⟩) np cp) ∧ w'.cell? ⟨q + 1, 2, none⟩ = some (.slice (some ⟨b2, o2, none⟩) np ep) ∧ w'.cell? ⟨b1, o1 + k, none⟩ = some (.slice (some ⟨g1, f1, none⟩) nm cu1) ∧ w'.cell? ⟨b2, o2 + k, none⟩ = some (.slice (some ⟨g2, f2, none⟩) nm cu2)) ∧ (w'.cell? ⟨g1, f1 + j * 5, none⟩ = some (.int .i64 xk) ∧ w'.cell? ⟨g1, f1 + j * 5 + 1, none⟩ = some (.int .i64 xa) ∧ w'.cell? ⟨g1, f1 + j * 5 + 2, none⟩ = some (.int .i64 xb) ∧ w'.cell? ⟨g1, f1 + j * 5 + 3, none⟩ = some (.slice ac1 nc1 cc1) ∧ w'.cell? ⟨g1, f1 + j * 5 + 4, none⟩ = some (.bool xdf)) ∧ w'.cell? ⟨g2, f2 + j * 5, none⟩ = some (.int .i64 uk) ∧ w'.cell? ⟨g2, f2 + j * 5 + 1, none⟩ = some (.int .i64 ua) ∧ w'.cell? ⟨g2, f2 + j * 5 + 2, none⟩ = some (.int .i64 ub) ∧ w'.cell? ⟨g2, f2 + j * 5 + 3, none⟩ = some (.slice ac2 nc2 cc2) ∧ w'.cell? ⟨g2, f2 + j * 5 + 4, none⟩ = some (.bool udf)) (go_keep)
                        (first | (go_at_call 43; (with_reducible refine (OP1.out _ WB.out.drew).mono ?_); rintro r w9 ⟨rfl, hb9⟩; have hb9' := below_drewS hb9; have B9 := Lib.hid hb9'; obtain ⟨⟨m1, m2⟩, m3, m4⟩ := KE2.out w9 (below_trans B6.out hb9' B6.out.size); have r0 := (hb9'.cell (p := ⟨g1, f1 + j * 5, none⟩) (block_lt_of_cell d0)).trans d0; have r1 := (hb9'.cell (p := ⟨g1, f1 + j * 5 + 1, none⟩) (block_lt_of_cell d1)).trans d1; have r2 := (hb9'.cell (p := ⟨g1, f1 + j * 5 + 2, none⟩) (block_lt_of_cell d2)).trans d2; have r3 := (hb9'.cell (p := ⟨g1, f1 + j * 5 + 3, none⟩) (block_lt_of_cell d3)).trans d3; have r4 := (hb9'.cell (p := ⟨g1, f1 + j * 5 + 4, none⟩) (block_lt_of_cell d4)).trans d4; have s0 := (hb9'.cell (p := ⟨g2, f2 + j * 5, none⟩) (block_lt_of_cell e0)).trans e0; have s1 := (hb9'.cell (p := ⟨g2, f2 + j * 5 + 1, none⟩) (block_lt_of_cell e1)).trans e1; have s2 := (hb9'.cell (p := ⟨g2, f2 + j * 5 + 2, none⟩) (block_lt_of_cell e2)).trans e2; have s3 := (hb9'.cell (p := ⟨g2, f2 + j * 5 + 3, none⟩) (block_lt_of_cell e3)).trans e3; have s4 := (hb9'.cell (p := ⟨g2, f2 + j * 5 + 4, none⟩) (block_lt_of_cell e4)).trans e4; clear hb9 hb9'))
                      cases z with
                      | true =>
                        have EQX := of_decide_eq_true HZ.out
                        have T := Lib.hid (show ∀ e, e < j + 1 → p.getD e default = p'.getD e default from fun e he => by
                          by_cases hej : e = j
                          · subst hej; rw [HX1.out, HX2.out]; exact EQX
                          · exact OK2.out e (by omega))
                        clear EQX
                        go_wp2_with fail
                        go_roundw
                        case rel => exact ⟨j + 1, by omega, by go_num, T.out, below_trans B6.out B9.out B6.out.size⟩
                        case measure => simp [intOf] <;> omega
                      | false =>
                        have NEX := of_decide_eq_false HZ.out
                        have FF := Lib.hid (show y = false from YF.out fun hh => by
                          apply NEX
                          have e1 := HPP.out
                          rw [hh.2.2.1, HPP'.out] at e1
                          rw [← HX1.out, ← HX2.out, e1])
                        clear NEX
                        go_wp2_with fail
                        go_ret
                        exact ⟨by rw [FF.out]; rfl, below_trans BW2.out B9.out BW2.out.size⟩
                    · have ejm : nm = j := by omega
                      subst ejm
                      have T := Lib.hid (show ∀ e, e < k + 1 → ps.getD e [] = ps'.getD e [] from fun e he => by
                        by_cases hek : e = k
                        · subst hek; rw [HPP.out, HPP'.out]; exact listO_ext (by rw [HNM.out, HNM'.out]) (fun i hi => OK2.out i (by have := HNM.out; omega))
                        · exact OK.out e (by omega))
                      go_wp2_with fail
                      go_roundw
                      case rel => exact ⟨k + 1, by omega, by go_num, T.out, BR2.out⟩
                      case measure => simp [intOf] <;> omega
                · have FF := Lib.hid (show y = false from YF.out fun hh => by
                    apply hmm
                    have e1 := HPP.out
                    rw [hh.2.2.1, HPP'.out] at e1
                    rw [← HNM.out, ← e1, HNM'.out])
                  have hmm' : ((nm : Int) == (nm' : Int)) = false := beq_eq_false_iff_ne.2 (by omega)
                  go_wp2_with fail
                  go_quiet (fail)
                  go_wp2_with fail
                  go_ret
                  exact ⟨by rw [FF.out]; rfl, below_drewN BW.out _⟩
              · have enp : np = k := by omega
                subst enp
                have PEQ : ps = ps' := listP_ext (by rw [HNP.out, HNP'.out]) (fun j hj => OK.out j (by have := HNP.out; omega))
                have TT := Lib.hid (show y = true from by first | exact YT.out rfl rfl PEQ PLD.out.1 PLD.out.2 | exact YT.out trivial trivial PEQ PLD.out.1 PLD.out.2 | exact YT.out PEQ PLD.out.1 PLD.out.2)
                clear PEQ
                go_wp2_with fail
                go_ret
                exact ⟨by rw [TT.out]; rfl, below_trans B2.out BR.out B2.out.size⟩
          · have d2 : decide (dr = dr') = false := decide_eq_false hdr
            rw [d2]
            have FF := Lib.hid (YF.out fun hh => hdr hh.2.2.2.2)
            go_wp2_with fail
            go_ret
            exact ⟨by rw [FF.out]; rfl, below_trans B2.out B4.out B2.out.size⟩
        · have d1 : decide (pl = pl') = false := decide_eq_false hpl
          rw [d1]
          have FF := Lib.hid (YF.out fun hh => hpl hh.2.2.2.1)
          go_wp2_with fail
          go_ret
          exact ⟨by rw [FF.out]; rfl, below_trans B2.out B3.out B2.out.size⟩
      · have FF := Lib.hid (YF.out fun hh => hnn (by rw [← HNP.out, ← HNP'.out, hh.2.2.1]))
        have hnn' : ((np : Int) == (np' : Int)) = false := beq_eq_false_iff_ne.2 (by omega)
        go_wp2_with fail
        go_ret
        exact ⟨by rw [FF.out]; rfl, B2.out⟩
    · have FF := Lib.hid (YF.out fun hh => hm hh.2.1)
      have hm' : (m == m') = false := beq_eq_false_iff_ne.2 hm
      go_wp2_with fail
      go_ret
      exact ⟨by rw [FF.out]; rfl, B2.out⟩
  · have FF := Lib.hid (YF.out fun hh => ht hh.1)
    have ht' : (t == t') = false := beq_eq_false_iff_ne.2 ht
    go_wp2_with fail
    go_ret
    exact ⟨by rw [FF.out]; rfl, B2.out⟩
end Go.Proofs.Ytpefjcmaggimhaa

