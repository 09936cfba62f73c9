
/-
  Package sheet: Check.
-/
import Derived.Test.YtpefjcmaggimhaaSheB
namespace Go.Proofs.Ytpefjcmaggimhaa
open Go.RowKit
set_option linter.unusedVariables false
set_option linter.unusedSimpArgs false
set_option maxRecDepth 100000

def okP (n : Int) (p : List Opn) : Bool := p.all (fun o => chkO o n == 0)
def okPs (ps : List (List Opn)) (n : Int) : Bool := ps.all (okP n)
def badTM (s : Scr) : Bool := decide (s.t < 1 ∨ 256 < s.t ∨ s.m < 1 ∨ 1048576 < s.m)
def frmB (s : Scr) : Bool := decide (s.ps.length = 0) || (s.pl.any (out1 (-1) 1000) || s.dr.any (out1 0 1000))
def chkS (s : Scr) : Int := if badTM s then 1 else if longB s then 2 else if frmB s then 4 else if okPs s.ps s.ps.length then 0 else 4
theorem tm_ways (s : Scr) : (badTM s = true ∧ (s.t < 1 ∨ (¬ s.t < 1 ∧ 256 < s.t) ∨ (¬ s.t < 1 ∧ ¬ 256 < s.t ∧ s.m < 1) ∨ (¬ s.t < 1 ∧ ¬ 256 < s.t ∧ ¬ s.m < 1 ∧ 1048576 < s.m))) ∨ (badTM s = false ∧ ¬ s.t < 1 ∧ ¬ 256 < s.t ∧ ¬ s.m < 1 ∧ ¬ 1048576 < s.m) := by
  unfold badTM
  by_cases h1 : s.t < 1
  · exact .inl ⟨decide_eq_true (.inl h1), .inl h1⟩
  by_cases h2 : 256 < s.t
  · exact .inl ⟨decide_eq_true (.inr (.inl h2)), .inr (.inl ⟨h1, h2⟩)⟩
  by_cases h3 : s.m < 1
  · exact .inl ⟨decide_eq_true (.inr (.inr (.inl h3))), .inr (.inr (.inl ⟨h1, h2, h3⟩))⟩
  by_cases h4 : 1048576 < s.m
  · exact .inl ⟨decide_eq_true (.inr (.inr (.inr h4))), .inr (.inr (.inr ⟨h1, h2, h3, h4⟩))⟩
  · exact .inr ⟨decide_eq_false (by rintro (h | h | h | h) <;> contradiction), h1, h2, h3, h4⟩
theorem okP_no {n : Int} {p : List Opn} {k : Nat} (hk : k < p.length) (h : (chkO (p.getD k default) n == 0) = false) : okP n p = false := by
  unfold okP
  rw [List.all_eq_false]
  exact ⟨p[k], List.getElem_mem hk, by rw [List.getD_eq_getElem?_getD, List.getElem?_eq_getElem hk] at h; simpa using h⟩
theorem okP_yes {n : Int} {p : List Opn} (h : ∀ k, k < p.length → (chkO (p.getD k default) n == 0) = true) : okP n p = true := by
  unfold okP
  rw [List.all_eq_true]
  intro x hx
  obtain ⟨k, hk, rfl⟩ := List.getElem_of_mem hx
  have := h k hk
  rw [List.getD_eq_getElem?_getD, List.getElem?_eq_getElem hk] at this
  simpa using this
theorem okPs_no {n : Int} {ps : List (List Opn)} {k : Nat} (hk : k < ps.length) (h : okP n (ps.getD k []) = false) : okPs ps n = false := by
  unfold okPs
  rw [List.all_eq_false]
  exact ⟨ps[k], List.getElem_mem hk, by rw [List.getD_eq_getElem?_getD, List.getElem?_eq_getElem hk] at h; simpa using h⟩
theorem okPs_yes {n : Int} {ps : List (List Opn)} (h : ∀ k, k < ps.length → okP n (ps.getD k []) = true) : okPs ps n = true := by
  unfold okPs
  rw [List.all_eq_true]
  intro x hx
  obtain ⟨k, hk, rfl⟩ := List.getElem_of_mem hx
  have := h k hk
  rw [List.getD_eq_getElem?_getD, List.getElem?_eq_getElem hk] at this
  simpa using this
theorem opc_cells {w : World} {b o : Nat} {e : Opn} (h : OpC w b o e) : ∃ v, (w.cell? ⟨b, o, none⟩ = some (.int .i64 e.k) ∧ w.cell? ⟨b, o + 1, none⟩ = some (.int .i64 e.a) ∧ w.cell? ⟨b, o + 2, none⟩ = some (.int .i64 e.b) ∧ w.cell? ⟨b, o + 3, none⟩ = some v ∧ w.cell? ⟨b, o + 4, none⟩ = some (.bool e.df)) ∧ CssOf w v e.cs := by
  obtain ⟨v, c0, c1, c2, c3, c4, c5⟩ := h
  exact ⟨v, ⟨c0, c1, c2, c3, c4⟩, c5⟩
structure ScrN (s : Scr) : Prop where
  p : s.ps.length ≤ 1000000
  l : s.pl.length ≤ 1000000
  d : s.dr.length ≤ 1000000
  o : ∀ k, k < s.ps.length → (s.ps.getD k []).length ≤ 1000000

set_option maxHeartbeats 4000000 in
theorem scheck_any (vp vl vd : Value) (s : Scr) (w : World) (h : ScrAt w vp vl vd s) (hN : ScrN s) :
    Calls Try.prog 12 #[scrV vp vl vd s] w fun r w' => r = .returned (.int .i64 (chkS s)) ∧ Below w.heap.size w w' := by
  have LG := fun X hX => long_any vp vl vd s X (h.below (Nat.le_refl _) hX) hN.p
  have O1 := fun X hX => outside_any vl s.pl (-1) 1000 X (slI_below h.l (Nat.le_refl _) hX) hN.l
  have O2 := fun X hX => outside_any vd s.dr 0 1000 X (slI_below h.d (Nat.le_refl _) hX) hN.d
  have ways := tm_ways s
  have HN := Lib.hid hN
  have hp := h.p
  obtain ⟨t, m, ps, pl, dr⟩ := s
  unfold scrV scrC at LG ⊢
  dsimp only at LG O1 O2 h hp ways ⊢
  obtain ⟨ap, cp, rfl⟩ := h.p.shape
  obtain ⟨al, cl, rfl⟩ := slI_shape h.l
  obtain ⟨ad, cd, rfl⟩ := slI_shape h.d
  dsimp only at LG O1 O2 h hp ⊢
  obtain ⟨np, hnp⟩ : ∃ n, ps.length = n := ⟨_, rfl⟩
  obtain ⟨nl, hnl⟩ : ∃ n, pl.length = n := ⟨_, rfl⟩
  obtain ⟨nd, hnd⟩ : ∃ n, dr.length = n := ⟨_, rfl⟩
  rw [hnp, hnl, hnd] at LG
  rw [hnp] at hp
  rw [hnl] at O1
  rw [hnd] at O2
  rw [hnp, hnl, hnd]
  obtain ⟨y1, hy1⟩ : ∃ y, longB ⟨t, m, ps, pl, dr⟩ = y := ⟨_, rfl⟩
  obtain ⟨y2, hy2⟩ : ∃ y, pl.any (out1 (-1) 1000) = y := ⟨_, rfl⟩
  obtain ⟨y3, hy3⟩ : ∃ y, dr.any (out1 0 1000) = y := ⟨_, rfl⟩
  rw [hy1] at LG
  rw [hy2] at O1
  rw [hy3] at O2
  obtain ⟨c, hc⟩ : ∃ c, chkS ⟨t, m, ps, pl, dr⟩ = c := ⟨_, rfl⟩
  rw [hc]
  have CF := Lib.hid (show c = if badTM ⟨t, m, ps, pl, dr⟩ then 1 else if y1 then 2 else if (decide (np = 0) || (y2 || y3)) then 4 else if okPs ps np then 0 else 4 from by
    rw [← hc]; unfold chkS frmB; dsimp only; rw [hy1, hy2, hy3, hnp])
  obtain ⟨W, hW⟩ : ∃ W, w.alloc (.cells #[.int .i64 t, .int .i64 m, .slice ap np cp, .slice al nl cl, .slice ad nd cd] 25) = W := ⟨_, rfl⟩
  obtain ⟨b1, z⟩ := five_new hW
  obtain ⟨z0, z1, z2, z3, z4⟩ := five_cells z
  have B1 := Lib.hid b1
  have HW := Lib.hid hW
  have HP := Lib.hid hp
  have HNP := Lib.hid hnp
  have LG1 := Lib.hid (LG W b1)
  have OO1 := Lib.hid O1
  have OO2 := Lib.hid O2
  obtain ⟨q, hq⟩ : ∃ q, w.heap.size = q := ⟨_, rfl⟩
  have HQ := Lib.hid hq
  rw [hq] at z z0 z1 z2 z3 z4
  have KEEP := Lib.hid (show ∀ X, Below W.heap.size W X → X.cell? ⟨q, 2, none⟩ = some (.slice ap np cp) ∧ X.cell? ⟨q, 3, none⟩ = some (.slice al nl cl) ∧ X.cell? ⟨q, 4, none⟩ = some (.slice ad nd cd) from fun X hX => by
    obtain ⟨_, _, u2, u3, u4⟩ := five_cells ((hX.block _ (lt_of_heap z)).trans z)
    exact ⟨u2, u3, u4⟩)
  clear h hN hp LG O1 O2 hnp hnl hnd hy1 hy2 hy3 hc hW b1 z hq
  rcases ways with ⟨hb, hh⟩ | ⟨hb, h1, h2, h3, h4⟩
  · have C1 := Lib.hid (show c = 1 from by rw [CF.out, hb]; rfl)
    clear hb CF
    rcases hh with h1 | ⟨h1, h2⟩ | ⟨h1, h2, h3⟩ | ⟨h1, h2, h3, h4⟩
    all_goals
      go_enter Try.func12, Try.ntmps12
      go_upto_region 1 with fail
      rw [HW.out, HQ.out]
      go_wp2_with fail
      go_ret
      exact ⟨by rw [C1.out]; rfl, B1.out⟩
  · have C1 := Lib.hid (show c = if y1 then 2 else if (decide (np = 0) || (y2 || y3)) then 4 else if okPs ps np then 0 else 4 from by rw [CF.out, hb]; rfl)
    clear hb CF
    go_enter Try.func12, Try.ntmps12
    go_upto_region 1 with fail
    rw [HW.out, HQ.out]
    go_wp2_with fail
    refine LG1.out.mono ?_
    rintro r w1 ⟨rfl, hb1⟩
    have B2 := Lib.hid hb1
    obtain ⟨u2, u3, u4⟩ := KEEP.out w1 hb1
    clear hb1 z0 z1 z2 z3 z4
    cases y1 with
    | true =>
      have C2 := Lib.hid (show c = 2 from by rw [C1.out]; rfl)
      go_wp2_with fail
      go_ret
      exact ⟨by rw [C2.out]; rfl, below_trans B1.out B2.out B1.out.size⟩
    | false =>
      have C2 := Lib.hid (show c = if (decide (np = 0) || (y2 || y3)) then 4 else if okPs ps np then 0 else 4 from by rw [C1.out]; rfl)
      clear C1
      by_cases hz : np = 0
      · have C3 := Lib.hid (show c = 4 from by rw [C2.out, decide_eq_true hz]; rfl)
        subst hz
        go_wp2_with fail
        go_ret
        exact ⟨by rw [C3.out]; rfl, below_trans B1.out B2.out B1.out.size⟩
      · have C3 := Lib.hid (show c = if (y2 || y3) then 4 else if okPs ps np then 0 else 4 from by rw [C2.out, decide_eq_false hz]; rfl)
        have hz' : ((np : Int) == 0) = false := beq_eq_false_iff_ne.2 (by omega)
        clear C2
        go_wp2_with fail
        refine (OO1.out w1 (below_trans B1.out B2.out B1.out.size)).mono ?_
        rintro r w2 ⟨rfl, hb2⟩
        have B3 := Lib.hid (below_trans B2.out hb2 B2.out.size)
        obtain ⟨v2, v3, v4⟩ := KEEP.out w2 B3.out
        clear hb2 u2 u3 u4
        cases y2 with
        | true =>
          have C4 := Lib.hid (show c = 4 from by rw [C3.out]; rfl)
          go_wp2_with fail
          go_ret
          exact ⟨by rw [C4.out]; rfl, below_trans B1.out B3.out B1.out.size⟩
        | false =>
          have C4 := Lib.hid (show c = if y3 then 4 else if okPs ps np then 0 else 4 from by rw [C3.out]; rfl)
          clear C3
          go_wp2_with fail
          refine (OO2.out w2 (below_trans B1.out B3.out B1.out.size)).mono ?_
          rintro r w3 ⟨rfl, hb3⟩
          have B4 := Lib.hid (below_trans B3.out hb3 B3.out.size)
          obtain ⟨u2, u3, u4⟩ := KEEP.out w3 B4.out
          clear hb3 v2 v3 v4
          cases y3 with
          | true =>
            have C5 := Lib.hid (show c = 4 from by rw [C4.out]; rfl)
            go_wp2_with fail
            go_ret
            exact ⟨by rw [C5.out]; rfl, below_trans B1.out B4.out B1.out.size⟩
          | false =>
            have C5 := Lib.hid (show c = if okPs ps np then 0 else 4 from by rw [C4.out]; rfl)
            clear C4
            go_wp2_with fail
            go_loopw [47] (fun i wr => ∃ k : Nat, k ≤ np ∧ i = .int .i64 k ∧ (∀ j, j < k → okP np (ps.getD j []) = true) ∧ Below W.heap.size W wr) (fun i _ => np - (intOf i).toNat)
            case atStart => exact ⟨0, by omega, rfl, fun j hj => by omega, B4.out⟩
            case round =>
              obtain ⟨k, hk, rfl, hok, hbr⟩ := hrel
              have OK := Lib.hid hok
              have BR := Lib.hid hbr
              clear hok hbr
              have np8 : np ≤ 1000000 := by have := HN.out.p; have := HNP.out; dsimp only at *; omega
              by_cases hlt : k < np
              · have hlt' : (k : Int) < (np : Int) := by omega
                have BW := Lib.hid (below_trans B1.out BR.out B1.out.size)
                obtain ⟨b', o', u, rfl, c0, hu⟩ := (HP.out.below (Nat.le_refl _) BW.out).at k (by have := HNP.out; omega)
                obtain ⟨au, cu, rfl⟩ := hu.shape
                have NM := Lib.hid (show (ps.getD k []).length ≤ 1000000 from HN.out.o k (by have := HNP.out; dsimp only; omega))
                obtain ⟨p, hpp⟩ : ∃ p, ps.getD k [] = p := ⟨_, rfl⟩
                rw [hpp] at c0 hu NM
                have HPP := Lib.hid hpp
                obtain ⟨nm, hnm⟩ : ∃ n, p.length = n := ⟨_, rfl⟩
                rw [hnm] at c0 hu NM
                have HNM := Lib.hid hnm
                have HU := Lib.hid hu
                clear hpp hnm hu
                go_wp2_with fail
                go_loopw [53] (fun i wx => ∃ j : Nat, j ≤ nm ∧ i = .int .i64 j ∧ (∀ e, e < j → (chkO (p.getD e default) np == 0) = true) ∧ Below wr.heap.size wr wx) (fun i _ => nm - (intOf i).toNat)
                case atStart => exact ⟨0, by omega, rfl, fun j hj => by omega, Below.refl _ _⟩
                case round =>
                  obtain ⟨j, hj, rfl, hok2, hb5⟩ := hrel
                  have OK2 := Lib.hid hok2
                  have B5 := Lib.hid hb5
                  have B6 := Lib.hid (below_trans BR.out hb5 BR.out.size)
                  have BW2 := Lib.hid (below_trans BW.out hb5 BW.out.size)
                  clear hok2 hb5
                  obtain ⟨k2, k3, k4⟩ := KEEP.out wr B6.out
                  by_cases hlt2 : j < nm
                  · have hlt2' : (j : Int) < (nm : Int) := by omega
                    obtain ⟨b2, o2, rfl, hop⟩ := (HU.out.below (Nat.le_refl _) B5.out).at j (by have := HNM.out; omega)
                    obtain ⟨v, ⟨d0, d1, d2, d3, d4⟩, hcs⟩ := opc_cells hop
                    obtain ⟨x, hx⟩ : ∃ x, p.getD j default = x := ⟨_, rfl⟩
                    rw [hx] at d0 d1 d2 d4 hcs
                    have HX := Lib.hid hx
                    obtain ⟨xk, xa, xb, xcs, xdf⟩ := x
                    dsimp only at d0 d1 d2 d4 hcs
                    obtain ⟨ac, cc, rfl⟩ := hcs.shape
                    obtain ⟨W6, hW6⟩ : ∃ W6, wr.alloc (.cells #[.int .i64 xk, .int .i64 xa, .int .i64 xb, .slice ac xcs.length cc, .bool xdf] 48) = W6 := ⟨_, rfl⟩
                    obtain ⟨b6, z6⟩ := five_new hW6
                    obtain ⟨e0, e1, e2, e3, e4⟩ := five_cells z6
                    obtain ⟨f2, f3, f4⟩ := KEEP.out W6 (below_trans B6.out b6 B6.out.size)
                    have DC := dcheck_any ⟨xk, xa, xb, xcs, xdf⟩ (.slice ac xcs.length cc) np W6 (hcs.below (Nat.le_refl _) b6)
                    obtain ⟨z, hz⟩ : ∃ z, chkO ⟨xk, xa, xb, xcs, xdf⟩ np = z := ⟨_, rfl⟩
                    rw [hz] at DC
                    have HZ := Lib.hid (show chkO (p.getD j default) np = z from by rw [HX.out]; exact hz)
                    unfold opV at DC
                    dsimp only at DC
                    obtain ⟨nc, hnc⟩ : ∃ n, xcs.length = n := ⟨_, rfl⟩
                    rw [hnc] at d3 e3 DC hW6
                    have DC1 := Lib.hid DC
                    have HW6 := Lib.hid hW6
                    have B7 := Lib.hid (show Below wr.heap.size wr W6 from b6)
                    obtain ⟨q6, hq6⟩ : ∃ q, wr.heap.size = q := ⟨_, rfl⟩
                    rw [hq6] at e0 e1 e2 e3 e4
                    have HQ6 := Lib.hid hq6
                    clear hx hcs hop hW6 b6 z6 DC hnc hz k2 k3 k4 hq6
                    go_upto_region 13 with fail
                    rw [HW6.out, HQ6.out]
                    clear d0 d1 d2 d3 d4
                    go_wp2_with fail
                    refine DC1.out.mono ?_
                    rintro r w8 ⟨rfl, hb8⟩
                    have B8 := Lib.hid (below_trans B7.out hb8 B7.out.size)
                    clear hb8 e0 e1 e2 e3 e4 f2 f3 f4
                    by_cases hz0 : z = 0
                    · have T := Lib.hid (show ∀ e, e < j + 1 → (chkO (p.getD e default) np == 0) = true from fun e he => by
                        by_cases hej : e = j
                        · subst hej; rw [HZ.out, hz0]; rfl
                        · exact OK2.out e (by omega))
                      clear HZ
                      subst hz0
                      have NMV := NM.out
                      go_wp2_with fail
                      go_roundw
                      case rel => exact ⟨j + 1, by omega, by go_num, T.out, below_trans B5.out B8.out B5.out.size⟩
                      case measure => simp [intOf] <;> omega
                    · have hz1 : (z == 0) = false := beq_eq_false_iff_ne.2 hz0
                      have C6 := Lib.hid (show c = 4 from by
                        rw [C5.out, okPs_no (k := k) (by have := HNP.out; omega) (by rw [HPP.out]; exact okP_no (k := j) (by have := HNM.out; omega) (by rw [HZ.out]; exact hz1))]; rfl)
                      go_wp2_with fail
                      go_ret
                      exact ⟨by rw [C6.out]; rfl, below_trans BW2.out B8.out BW2.out.size⟩
                  · obtain rfl : j = nm := by omega
                    have T := Lib.hid (show ∀ e, e < k + 1 → okP np (ps.getD e []) = true from fun e he => by
                      by_cases hek : e = k
                      · subst hek; rw [HPP.out]; exact okP_yes (fun i hi => OK2.out i (by have := HNM.out; omega))
                      · exact OK.out e (by omega))
                    go_wp2_with fail
                    go_roundw
                    case rel => exact ⟨k + 1, by omega, by go_num, T.out, B6.out⟩
                    case measure => simp [intOf] <;> omega
              · obtain rfl : k = np := by omega
                have C6 := Lib.hid (show c = 0 from by
                  rw [C5.out, okPs_yes (fun i hi => OK.out i (by have := HNP.out; omega))]; rfl)
                go_wp2_with fail
                go_ret
                exact ⟨by rw [C6.out]; rfl, below_trans B1.out BR.out B1.out.size⟩
end Go.Proofs.Ytpefjcmaggimhaa

