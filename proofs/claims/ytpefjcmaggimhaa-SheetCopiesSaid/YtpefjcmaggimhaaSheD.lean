
/-
  staitheref05: Check.
-/
import Derived.Test.YtpefjcmaggimhaaSheC
namespace Go.Proofs.Ytpefjcmaggimhaa
open Go.RowKit
set_option linter.unusedVariables false
set_option linter.unusedSimpArgs false
set_option maxRecDepth 100000

theorem chk4 {f o : Bool} (h : f = true ∨ o = false) : (if f then (4 : Int) else if o then 0 else 4) = 4 := by
  cases f <;> cases o <;> simp at h ⊢
theorem out1_ways (a b n : Int) : (out1 a b n = true ∧ n < a) ∨ (out1 a b n = true ∧ ¬ n < a ∧ b < n) ∨ (out1 a b n = false ∧ ¬ n < a ∧ ¬ b < n) := by
  unfold out1
  by_cases h1 : n < a
  · exact .inl ⟨by rw [decide_eq_true h1]; rfl, h1⟩
  · by_cases h2 : b < n
    · exact .inr (.inl ⟨by rw [decide_eq_false h1, decide_eq_true h2]; rfl, h1, h2⟩)
    · exact .inr (.inr ⟨by rw [decide_eq_false h1, decide_eq_false h2]; rfl, h1, h2⟩)
theorem anyI_yes {l : List Int} {p : Int → Bool} {k : Nat} (hk : k < l.length) (h : p (l.getD k 0) = true) : l.any p = true := by
  rw [List.any_eq_true]; exact ⟨_, getD_memI hk, h⟩
theorem anyI_no {l : List Int} {p : Int → Bool} (h : ∀ k, k < l.length → p (l.getD k 0) = false) : l.any p = false := by
  rw [List.any_eq_false]
  intro x hx
  obtain ⟨j, hj, rfl⟩ := List.getElem_of_mem hx
  have := h j hj
  rw [List.getD_eq_getElem?_getD, List.getElem?_eq_getElem hj] at this
  simpa using this
theorem anyP_yes {l : List (List Opn)} {p : List Opn → Bool} {k : Nat} (hk : k < l.length) (h : p (l.getD k []) = true) : l.any p = true := by
  rw [List.any_eq_true]; exact ⟨_, getD_mem hk, h⟩
theorem anyP_no {l : List (List Opn)} {p : List Opn → Bool} (h : ∀ k, k < l.length → p (l.getD k []) = false) : l.any p = false := by
  rw [List.any_eq_false]
  intro x hx
  obtain ⟨j, hj, rfl⟩ := List.getElem_of_mem hx
  have := h j hj
  rw [List.getD_eq_getElem?_getD, List.getElem?_eq_getElem hj] at this
  simpa using this

set_option maxHeartbeats 8000000 in
theorem rscheck_any (vp vl vd : Value) (s : Scr) (w : World) (h : ScrAt w vp vl vd s) (hN : ScrN s) :
    Calls Try.prog 13 #[scrV vp vl vd s] w fun r w' => r = .returned (.int .i64 (chkS s)) ∧ Below w.heap.size w w' := by
  have ways := tm_ways s
  have HN := Lib.hid hN
  have hp := h.p
  have hl := h.l
  have hd := h.d
  obtain ⟨t, m, ps, pl, dr⟩ := s
  unfold scrV scrC
  dsimp only at h hp hl hd ways ⊢
  obtain ⟨ap, cp, rfl⟩ := hp.shape
  obtain ⟨al, cl, rfl⟩ := slI_shape hl
  obtain ⟨ad, cd, rfl⟩ := slI_shape hd
  obtain ⟨np, hnp⟩ : ∃ n, ps.length = n := ⟨_, rfl⟩
  obtain ⟨nl, hnl⟩ : ∃ n, pl.length = n := ⟨_, rfl⟩
  obtain ⟨nd, hnd⟩ : ∃ n, dr.length = n := ⟨_, rfl⟩
  rw [hnp] at hp
  rw [hnl] at hl
  rw [hnd] at hd
  rw [hnp, hnl, hnd]
  obtain ⟨c, hc⟩ : ∃ c, chkS ⟨t, m, ps, pl, dr⟩ = c := ⟨_, rfl⟩
  rw [hc]
  have CF := Lib.hid (show c = if badTM ⟨t, m, ps, pl, dr⟩ then 1 else if (decide (8 < np) || (decide (200 < nl) || (decide (64 < nd) || ps.any long1))) then 2 else if (decide (np = 0) || (pl.any (out1 (-1) 1000) || dr.any (out1 0 1000))) then 4 else if okPs ps np then 0 else 4 from by
    rw [← hc]; unfold chkS frmB longB; dsimp only; rw [hnp, hnl, hnd])
  obtain ⟨W, hW⟩ : ∃ W, w.alloc (.cells #[.int .i64 t, .int .i64 m, .slice ap np cp, .slice al nl cl, .slice ad nd cd] 25) = W := ⟨_, rfl⟩
  obtain ⟨b1, z⟩ := five_new hW
  obtain ⟨z0, z1, z2, z3, z4⟩ := five_cells z
  have B1 := Lib.hid b1
  have HW := Lib.hid hW
  have HP := Lib.hid hp
  have HL := Lib.hid hl
  have HD := Lib.hid hd
  have HNP := Lib.hid hnp
  have HNL := Lib.hid hnl
  have HND := Lib.hid hnd
  have np8 : np ≤ 1000000 := by have := hN.p; dsimp only at this; omega
  have nl8 : nl ≤ 1000000 := by have := hN.l; dsimp only at this; omega
  have nd8 : nd ≤ 1000000 := by have := hN.d; dsimp only at this; omega
  obtain ⟨q, hq⟩ : ∃ q, w.heap.size = q := ⟨_, rfl⟩
  have HQ := Lib.hid hq
  rw [hq] at z z0 z1 z2 z3 z4
  have KEEP := Lib.hid (show ∀ X, Below W.heap.size W X → X.cell? ⟨q, 2, none⟩ = some (.slice ap np cp) ∧ X.cell? ⟨q, 3, none⟩ = some (.slice al nl cl) ∧ X.cell? ⟨q, 4, none⟩ = some (.slice ad nd cd) from fun X hX => by
    obtain ⟨_, _, u2, u3, u4⟩ := five_cells ((hX.block _ (lt_of_heap z)).trans z)
    exact ⟨u2, u3, u4⟩)
  clear h hN hp hl hd hnp hnl hnd hc hW b1 z hq
  rcases ways with ⟨hb, hh⟩ | ⟨hb, h1, h2, h3, h4⟩
  · have C1 := Lib.hid (show c = 1 from by rw [CF.out, hb]; rfl)
    clear hb CF
    rcases hh with h1 | ⟨h1, h2⟩ | ⟨h1, h2, h3⟩ | ⟨h1, h2, h3, h4⟩
    all_goals
      go_enter Try.func13, Try.ntmps13
      go_upto_region 1 with fail
      rw [HW.out, HQ.out]
      go_wp2_with fail
      go_ret
      exact ⟨by rw [C1.out]; rfl, B1.out⟩
  · have C1 := Lib.hid (show c = if (decide (8 < np) || (decide (200 < nl) || (decide (64 < nd) || ps.any long1))) then 2 else if (decide (np = 0) || (pl.any (out1 (-1) 1000) || dr.any (out1 0 1000))) then 4 else if okPs ps np then 0 else 4 from by rw [CF.out, hb]; rfl)
    clear hb CF
    by_cases k1 : 8 < np
    · have k1' : (8 : Int) < np := by omega
      have C2 := Lib.hid (show c = 2 from by rw [C1.out, decide_eq_true k1]; rfl)
      go_enter Try.func13, Try.ntmps13
      go_upto_region 1 with fail
      rw [HW.out, HQ.out]
      go_wp2_with fail
      go_ret
      exact ⟨by rw [C2.out]; rfl, B1.out⟩
    · have k1' : ¬ (8 : Int) < np := by omega
      by_cases k2 : 200 < nl
      · have k2' : (200 : Int) < nl := by omega
        have C2 := Lib.hid (show c = 2 from by rw [C1.out, decide_eq_false k1, decide_eq_true k2]; rfl)
        go_enter Try.func13, Try.ntmps13
        go_upto_region 1 with fail
        rw [HW.out, HQ.out]
        go_wp2_with fail
        go_ret
        exact ⟨by rw [C2.out]; rfl, B1.out⟩
      · have k2' : ¬ (200 : Int) < nl := by omega
        by_cases k3 : 64 < nd
        · have k3' : (64 : Int) < nd := by omega
          have C2 := Lib.hid (show c = 2 from by rw [C1.out, decide_eq_false k1, decide_eq_false k2, decide_eq_true k3]; rfl)
          go_enter Try.func13, Try.ntmps13
          go_upto_region 1 with fail
          rw [HW.out, HQ.out]
          go_wp2_with fail
          go_ret
          exact ⟨by rw [C2.out]; rfl, B1.out⟩
        · have k3' : ¬ (64 : Int) < nd := by omega
          have C2 := Lib.hid (show c = if ps.any long1 then 2 else if (decide (np = 0) || (pl.any (out1 (-1) 1000) || dr.any (out1 0 1000))) then 4 else if okPs ps np then 0 else 4 from by rw [C1.out, decide_eq_false k1, decide_eq_false k2, decide_eq_false k3]; rfl)
          clear C1 k1 k2 k3
          go_enter Try.func13, Try.ntmps13
          go_upto_region 1 with fail
          rw [HW.out, HQ.out]
          go_wp2_with fail
          go_loopw [50] (fun i wr => ∃ k : Nat, k ≤ np ∧ i = .int .i64 k ∧ (∀ j, j < k → long1 (ps.getD j []) = false) ∧ W = wr) (fun i _ => np - (intOf i).toNat)
          case atStart => exact ⟨0, by omega, rfl, fun j hj => by omega, rfl⟩
          case round =>
            obtain ⟨k, hk, rfl, hok, rfl⟩ := hrel
            have OK := Lib.hid hok
            clear hok
            by_cases hlt : k < np
            · have hlt' : (k : Int) < (np : Int) := by omega
              obtain ⟨b', o', u, rfl, c0, hu⟩ := (HP.out.below (Nat.le_refl _) B1.out).at k (by have := HNP.out; omega)
              obtain ⟨au, cu, rfl⟩ := hu.shape
              obtain ⟨nm, hnm⟩ : ∃ n, (ps.getD k []).length = n := ⟨_, rfl⟩
              rw [hnm] at c0
              have LQ := show long1 (ps.getD k []) = decide (32 < nm) from by unfold long1; rw [hnm]
              clear hu hnm
              by_cases h32 : 32 < nm
              · have h32' : (32 : Int) < nm := by omega
                have C3 := Lib.hid (show c = 2 from by rw [C2.out, anyP_yes (k := k) (by have := HNP.out; omega) (by rw [LQ]; exact decide_eq_true h32)]; rfl)
                clear LQ
                go_wp2_with fail
                go_ret
                exact ⟨by rw [C3.out]; rfl, B1.out⟩
              · have h32' : ¬ (32 : Int) < nm := by omega
                have T := Lib.hid (show ∀ j, j < k + 1 → long1 (ps.getD j []) = false from fun j hj => by
                  by_cases hjk : j = k
                  · subst hjk; rw [LQ]; exact decide_eq_false h32
                  · exact OK.out j (by omega))
                clear LQ
                go_wp2_with fail
                go_roundw
                case rel => exact ⟨k + 1, by omega, by go_num, T.out, by first | rfl | trivial⟩
                case measure => simp [intOf] <;> omega
            · have enp : np = k := by omega
              subst enp
              have C3 := Lib.hid (show c = if (decide (np = 0) || (pl.any (out1 (-1) 1000) || dr.any (out1 0 1000))) then 4 else if okPs ps np then 0 else 4 from by
                rw [C2.out, anyP_no (fun i hi => OK.out i (by have := HNP.out; omega))]; rfl)
              clear C2 hlt hk OK
              by_cases hz : np = 0
              · have C4 := Lib.hid (show c = 4 from by rw [C3.out, decide_eq_true hz]; rfl)
                subst hz
                go_wp2_with fail
                go_ret
                exact ⟨by rw [C4.out]; rfl, B1.out⟩
              · have C4 := Lib.hid (show c = if (pl.any (out1 (-1) 1000) || dr.any (out1 0 1000)) then 4 else if okPs ps np then 0 else 4 from by rw [C3.out, decide_eq_false hz]; rfl)
                have hz' : ((np : Int) == 0) = false := beq_eq_false_iff_ne.2 (by omega)
                clear C3
                go_wp2_with fail
                go_loopw [65] (fun i wr => ∃ k : Nat, k ≤ np ∧ i = .int .i64 k ∧ (∀ j, j < k → okP np (ps.getD j []) = true) ∧ Below W.heap.size W wr) (fun i _ => np - (intOf i).toNat)
                case atStart => exact ⟨0, by omega, rfl, fun j hj => by omega, Below.refl _ _⟩
                case round =>
                  obtain ⟨k, hk, rfl, hok, hbr⟩ := hrel
                  have OK := Lib.hid hok
                  have BR := Lib.hid hbr
                  clear hok hbr z0 z1 z2 z3 z4
                  by_cases hlt : k < np
                  · have hlt' : (k : Int) < (np : Int) := by omega
                    have BW := Lib.hid (below_trans B1.out BR.out B1.out.size)
                    obtain ⟨b', o', u, rfl, c0, hu⟩ := (HP.out.below (Nat.le_refl _) BW.out).at k (by have := HNP.out; omega)
                    obtain ⟨au, cu, rfl⟩ := hu.shape
                    have NM := Lib.hid (show (ps.getD k []).length ≤ 1000000 from HN.out.o k (by have := HNP.out; dsimp only; omega))
                    obtain ⟨p, hpp⟩ : ∃ p, ps.getD k [] = p := ⟨_, rfl⟩
                    rw [hpp] at c0 hu NM
                    have HPP := Lib.hid hpp
                    obtain ⟨nm, hnm⟩ : ∃ n, p.length = n := ⟨_, rfl⟩
                    rw [hnm] at c0 hu NM
                    have HNM := Lib.hid hnm
                    have HU := Lib.hid hu
                    clear hpp hnm hu
                    go_wp2_with fail
                    go_loopw [71] (fun i wx => ∃ j : Nat, j ≤ nm ∧ i = .int .i64 j ∧ (∀ e, e < j → (chkO (p.getD e default) np == 0) = true) ∧ Below wr.heap.size wr wx) (fun i _ => nm - (intOf i).toNat)
                    case atStart => exact ⟨0, by omega, rfl, fun j hj => by omega, Below.refl _ _⟩
                    case round =>
                      obtain ⟨j, hj, rfl, hok2, hb5⟩ := hrel
                      have OK2 := Lib.hid hok2
                      have B5 := Lib.hid hb5
                      have B6 := Lib.hid (below_trans BR.out hb5 BR.out.size)
                      have BW2 := Lib.hid (below_trans BW.out hb5 BW.out.size)
                      clear hok2 hb5
                      obtain ⟨k2, k3, k4⟩ := KEEP.out wr B6.out
                      by_cases hlt2 : j < nm
                      · have hlt2' : (j : Int) < (nm : Int) := by omega
                        obtain ⟨b2, o2, rfl, hop⟩ := (HU.out.below (Nat.le_refl _) B5.out).at j (by have := HNM.out; omega)
                        obtain ⟨v, ⟨d0, d1, d2, d3, d4⟩, hcs⟩ := opc_cells hop
                        obtain ⟨x, hx⟩ : ∃ x, p.getD j default = x := ⟨_, rfl⟩
                        rw [hx] at d0 d1 d2 d4 hcs
                        have HX := Lib.hid hx
                        obtain ⟨xk, xa, xb, xcs, xdf⟩ := x
                        dsimp only at d0 d1 d2 d4 hcs
                        obtain ⟨ac, cc, rfl⟩ := hcs.shape
                        obtain ⟨W6, hW6⟩ : ∃ W6, wr.alloc (.cells #[.int .i64 xk, .int .i64 xa, .int .i64 xb, .slice ac xcs.length cc, .bool xdf] 48) = W6 := ⟨_, rfl⟩
                        obtain ⟨b6, z6⟩ := five_new hW6
                        obtain ⟨e0, e1, e2, e3, e4⟩ := five_cells z6
                        obtain ⟨f2, f3, f4⟩ := KEEP.out W6 (below_trans B6.out b6 B6.out.size)
                        have DC := rdcheck_any ⟨xk, xa, xb, xcs, xdf⟩ (.slice ac xcs.length cc) np W6 (hcs.below (Nat.le_refl _) b6)
                        obtain ⟨z, hz⟩ : ∃ z, chkO ⟨xk, xa, xb, xcs, xdf⟩ np = z := ⟨_, rfl⟩
                        rw [hz] at DC
                        have HZ := Lib.hid (show chkO (p.getD j default) np = z from by rw [HX.out]; exact hz)
                        unfold opV at DC
                        dsimp only at DC
                        obtain ⟨nc, hnc⟩ : ∃ n, xcs.length = n := ⟨_, rfl⟩
                        rw [hnc] at d3 e3 DC hW6
                        have DC1 := Lib.hid DC
                        have HW6 := Lib.hid hW6
                        have B7 := Lib.hid (show Below wr.heap.size wr W6 from b6)
                        obtain ⟨q6, hq6⟩ : ∃ q, wr.heap.size = q := ⟨_, rfl⟩
                        rw [hq6] at e0 e1 e2 e3 e4
                        have HQ6 := Lib.hid hq6
                        clear hx hcs hop hW6 b6 z6 DC hnc hz k2 k3 k4 hq6
                        go_upto_region 19 with fail
                        rw [HW6.out, HQ6.out]
                        clear d0 d1 d2 d3 d4
                        go_wp2_with fail
                        refine DC1.out.mono ?_
                        rintro r w8 ⟨rfl, hb8⟩
                        have B8 := Lib.hid (below_trans B7.out hb8 B7.out.size)
                        clear hb8 e0 e1 e2 e3 e4 f2 f3 f4
                        by_cases hz0 : z = 0
                        · have T := Lib.hid (show ∀ e, e < j + 1 → (chkO (p.getD e default) np == 0) = true from fun e he => by
                            by_cases hej : e = j
                            · subst hej; rw [HZ.out, hz0]; rfl
                            · exact OK2.out e (by omega))
                          clear HZ
                          subst hz0
                          have NMV := NM.out
                          go_wp2_with fail
                          go_roundw
                          case rel => exact ⟨j + 1, by omega, by go_num, T.out, below_trans B5.out B8.out B5.out.size⟩
                          case measure => simp [intOf] <;> omega
                        · have hz1 : (z == 0) = false := beq_eq_false_iff_ne.2 hz0
                          have C6 := Lib.hid (show c = 4 from by
                            rw [C4.out]
                            exact chk4 (.inr (okPs_no (k := k) (by have := HNP.out; omega) (by rw [HPP.out]; exact okP_no (k := j) (by have := HNM.out; omega) (by rw [HZ.out]; exact hz1)))))
                          go_wp2_with fail
                          go_ret
                          exact ⟨by rw [C6.out]; rfl, below_trans BW2.out B8.out BW2.out.size⟩
                      · obtain rfl : j = nm := by omega
                        have T := Lib.hid (show ∀ e, e < k + 1 → okP np (ps.getD e []) = true from fun e he => by
                          by_cases hek : e = k
                          · subst hek; rw [HPP.out]; exact okP_yes (fun i hi => OK2.out i (by have := HNM.out; omega))
                          · exact OK.out e (by omega))
                        go_wp2_with fail
                        go_roundw
                        case rel => exact ⟨k + 1, by omega, by go_num, T.out, B6.out⟩
                        case measure => simp [intOf] <;> omega
                  · have enp : np = k := by omega
                    subst enp
                    have C5 := Lib.hid (show c = if (pl.any (out1 (-1) 1000) || dr.any (out1 0 1000)) then 4 else 0 from by
                      rw [C4.out, okPs_yes (fun i hi => OK.out i (by have := HNP.out; omega))]; rfl)
                    have BW := Lib.hid (below_trans B1.out BR.out B1.out.size)
                    obtain ⟨k2, k3, k4⟩ := KEEP.out wr BR.out
                    have HL1 := Lib.hid (slI_below HL.out (Nat.le_refl _) BW.out)
                    have HD1 := Lib.hid (slI_below HD.out (Nat.le_refl _) BW.out)
                    obtain ⟨W5, hW5⟩ : ∃ X, wr = X := ⟨_, rfl⟩
                    have hW5' := hW5.symm
                    clear hW5
                    subst hW5'
                    clear C4 OK hlt hk
                    go_wp2_with fail
                    go_loopw [86] (fun i wx => ∃ k : Nat, k ≤ nl ∧ i = .int .i64 k ∧ (∀ j, j < k → out1 (-1) 1000 (pl.getD j 0) = false) ∧ W5 = wx) (fun i _ => nl - (intOf i).toNat)
                    case atStart => exact ⟨0, by omega, rfl, fun j hj => by omega, rfl⟩
                    case round =>
                      obtain ⟨k, hk, rfl, hok, rfl⟩ := hrel
                      have OK := Lib.hid hok
                      clear hok
                      by_cases hlt : k < nl
                      · have hlt' : (k : Int) < (nl : Int) := by omega
                        obtain ⟨b', o', rfl, c0⟩ := slI_at HL1.out k (by have := HNL.out; omega)
                        obtain ⟨x, hx⟩ : ∃ x, pl.getD k 0 = x := ⟨_, rfl⟩
                        rw [hx] at c0
                        have HX := Lib.hid hx
                        clear hx
                        rcases out1_ways (-1) 1000 x with ⟨e, g1⟩ | ⟨e, g1, g2⟩ | ⟨e, g1, g2⟩
                        · have C6 := Lib.hid (show c = 4 from by rw [C5.out, anyI_yes (p := out1 (-1) 1000) (k := k) (by have := HNL.out; omega) (by rw [HX.out]; exact e)]; rfl)
                          clear e
                          go_wp2_with fail
                          go_ret
                          exact ⟨by rw [C6.out]; rfl, BW.out⟩
                        · have C6 := Lib.hid (show c = 4 from by rw [C5.out, anyI_yes (p := out1 (-1) 1000) (k := k) (by have := HNL.out; omega) (by rw [HX.out]; exact e)]; rfl)
                          clear e
                          go_wp2_with fail
                          go_ret
                          exact ⟨by rw [C6.out]; rfl, BW.out⟩
                        · have T := Lib.hid (show ∀ j, j < k + 1 → out1 (-1) 1000 (pl.getD j 0) = false from fun j hj => by
                            by_cases hjk : j = k
                            · subst hjk; rw [HX.out]; exact e
                            · exact OK.out j (by omega))
                          clear e
                          go_wp2_with fail
                          go_roundw
                          case rel => exact ⟨k + 1, by omega, by go_num, T.out, by first | rfl | trivial⟩
                          case measure => simp [intOf] <;> omega
                      · have enl : nl = k := by omega
                        subst enl
                        have C6 := Lib.hid (show c = if dr.any (out1 0 1000) then 4 else 0 from by
                          rw [C5.out, anyI_no (fun i hi => OK.out i (by have := HNL.out; omega))]; rfl)
                        clear C5 OK hlt hk
                        go_wp2_with fail
                        go_loopw [100] (fun i wx => ∃ k : Nat, k ≤ nd ∧ i = .int .i64 k ∧ (∀ j, j < k → out1 0 1000 (dr.getD j 0) = false) ∧ W5 = wx) (fun i _ => nd - (intOf i).toNat)
                        case atStart => exact ⟨0, by omega, rfl, fun j hj => by omega, rfl⟩
                        case round =>
                          obtain ⟨k, hk, rfl, hok, rfl⟩ := hrel
                          have OK := Lib.hid hok
                          clear hok
                          by_cases hlt : k < nd
                          · have hlt' : (k : Int) < (nd : Int) := by omega
                            obtain ⟨b', o', rfl, c0⟩ := slI_at HD1.out k (by have := HND.out; omega)
                            obtain ⟨x, hx⟩ : ∃ x, dr.getD k 0 = x := ⟨_, rfl⟩
                            rw [hx] at c0
                            have HX := Lib.hid hx
                            clear hx
                            rcases out1_ways 0 1000 x with ⟨e, g1⟩ | ⟨e, g1, g2⟩ | ⟨e, g1, g2⟩
                            · have C7 := Lib.hid (show c = 4 from by rw [C6.out, anyI_yes (p := out1 0 1000) (k := k) (by have := HND.out; omega) (by rw [HX.out]; exact e)]; rfl)
                              clear e
                              go_wp2_with fail
                              go_ret
                              exact ⟨by rw [C7.out]; rfl, BW.out⟩
                            · have C7 := Lib.hid (show c = 4 from by rw [C6.out, anyI_yes (p := out1 0 1000) (k := k) (by have := HND.out; omega) (by rw [HX.out]; exact e)]; rfl)
                              clear e
                              go_wp2_with fail
                              go_ret
                              exact ⟨by rw [C7.out]; rfl, BW.out⟩
                            · have T := Lib.hid (show ∀ j, j < k + 1 → out1 0 1000 (dr.getD j 0) = false from fun j hj => by
                                by_cases hjk : j = k
                                · subst hjk; rw [HX.out]; exact e
                                · exact OK.out j (by omega))
                              clear e
                              go_wp2_with fail
                              go_roundw
                              case rel => exact ⟨k + 1, by omega, by go_num, T.out, by first | rfl | trivial⟩
                              case measure => simp [intOf] <;> omega
                          · have C7 := Lib.hid (show c = 0 from by
                              rw [C6.out, anyI_no (fun i hi => OK.out i (by have := HND.out; omega))]; rfl)
                            have hge : ¬ ((k : Int) < (nd : Int)) := by omega
                            go_wp2_with fail
                            go_ret
                            exact ⟨by rw [C7.out]; rfl, BW.out⟩
end Go.Proofs.Ytpefjcmaggimhaa

