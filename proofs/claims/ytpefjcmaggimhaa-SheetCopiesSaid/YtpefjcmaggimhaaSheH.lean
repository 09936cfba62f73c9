
/-
  staitheref05: Encode.
-/
import Derived.Test.YtpefjcmaggimhaaSheG
namespace Go.Proofs.Ytpefjcmaggimhaa
open Go.RowKit
set_option linter.unusedVariables false
set_option linter.unusedSimpArgs false
set_option maxRecDepth 100000

theorem rput5_any (n : Int) (w : World) : Calls Try.prog 29 #[.int .i64 n] w fun r w' => r = .returned (bs (putS n)) ∧ Below w.heap.size w w' := by
  go_enter Try.func29, Try.ntmps29
  go_wp2_with fail
  refine (ref_put_any n w).mono ?_
  rintro r w3 ⟨rfl, B3⟩
  have H3 := Lib.hid B3
  clear B3
  go_wp2_with fail
  go_ret
  exact ⟨rfl, H3.out⟩
theorem below_drewS {w w' : World} (h : Below w.drew.heap.size w.drew w') : Below w.heap.size w w' := ⟨h.os, h.tape, h.output, h.size, h.block⟩

set_option maxHeartbeats 8000000 in
theorem rsencode_any (vp vl vd : Value) (s : Scr) (w : World) (h : ScrAt w vp vl vd s) (hN : ScrN s) :
    Calls Try.prog 11 #[scrV vp vl vd s] w fun r w' => r = .returned (.tuple #[bs (encS s), .int .i64 (chkS s)]) ∧ Below w.heap.size w w' := by
  have CK := fun X hX => rscheck_any vp vl vd s X (h.below (Nat.le_refl _) hX) hN
  have GO := good_of (s := s)
  have hp := h.p
  have hl := h.l
  have hd := h.d
  obtain ⟨t, m, ps, pl, dr⟩ := s
  unfold scrV scrC at CK ⊢
  dsimp only at h hp hl hd CK GO ⊢
  obtain ⟨ap, cp, rfl⟩ := hp.shape
  obtain ⟨al, cl, rfl⟩ := slI_shape hl
  obtain ⟨ad, cd, rfl⟩ := slI_shape hd
  obtain ⟨np, hnp⟩ : ∃ n, ps.length = n := ⟨_, rfl⟩
  obtain ⟨nl, hnl⟩ : ∃ n, pl.length = n := ⟨_, rfl⟩
  obtain ⟨nd, hnd⟩ : ∃ n, dr.length = n := ⟨_, rfl⟩
  rw [hnp] at hp
  rw [hnl] at hl
  rw [hnd] at hd
  rw [hnp, hnl, hnd] at CK
  rw [hnp, hnl, hnd]
  obtain ⟨c, hc⟩ : ∃ c, chkS ⟨t, m, ps, pl, dr⟩ = c := ⟨_, rfl⟩
  have EN := Lib.hid (show encS ⟨t, m, ps, pl, dr⟩ = if c = 0 then encB ⟨t, m, ps, pl, dr⟩ ++ putLS (pl.map incI) ++ putLS dr else [] from by unfold encS; rw [hc])
  rw [hc] at CK GO
  rw [hc]
  obtain ⟨W, hW⟩ : ∃ W, w.alloc (.cells #[.int .i64 t, .int .i64 m, .slice ap np cp, .slice al nl cl, .slice ad nd cd] 25) = W := ⟨_, rfl⟩
  obtain ⟨b1, z⟩ := five_new hW
  obtain ⟨z0, z1, z2, z3, z4⟩ := five_cells z
  have B1 := Lib.hid b1
  have HW := Lib.hid hW
  have HP := Lib.hid hp
  have HL := Lib.hid hl
  have HD := Lib.hid hd
  have HNP := Lib.hid hnp
  have HNL := Lib.hid hnl
  have HND := Lib.hid hnd
  have CK1 := Lib.hid (CK W b1)
  obtain ⟨q, hq⟩ : ∃ q, w.heap.size = q := ⟨_, rfl⟩
  have HQ := Lib.hid hq
  rw [hq] at z z0 z1 z2 z3 z4
  have KEEP := Lib.hid (show ∀ X, Below W.heap.size W X → X.cell? ⟨q, 0, none⟩ = some (.int .i64 t) ∧ X.cell? ⟨q, 1, none⟩ = some (.int .i64 m) ∧ X.cell? ⟨q, 2, none⟩ = some (.slice ap np cp) ∧ X.cell? ⟨q, 3, none⟩ = some (.slice al nl cl) ∧ X.cell? ⟨q, 4, none⟩ = some (.slice ad nd cd) from fun X hX =>
    five_cells ((hX.block _ (lt_of_heap z)).trans z))
  clear h hN hp hl hd hnp hnl hnd hc hW b1 z hq CK
  by_cases h0 : c = 0
  · have G := Lib.hid (GO h0)
    have EN2 := Lib.hid (show encS ⟨t, m, ps, pl, dr⟩ = encB ⟨t, m, ps, pl, dr⟩ ++ putLS (pl.map incI) ++ putLS dr from by rw [EN.out, if_pos h0])
    subst h0
    clear GO EN
    go_enter Try.func11, Try.ntmps11
    go_upto_region 1 with fail
    rw [HW.out, HQ.out]
    go_wp2_with fail
    refine CK1.out.mono ?_
    rintro r w1 ⟨rfl, hb1⟩
    have B2 := Lib.hid hb1
    have KX := Lib.hid (fun X (hX : Below w1.heap.size w1 X) => KEEP.out X (below_trans hb1 hX hb1.size))
    have PX := Lib.hid (fun X (hX : Below w1.heap.size w1 X) => HP.out.below (Nat.le_refl _) (below_trans B1.out (below_trans hb1 hX hb1.size) B1.out.size))
    have LX := Lib.hid (fun X (hX : Below w1.heap.size w1 X) => slI_below HL.out (Nat.le_refl _) (below_trans B1.out (below_trans hb1 hX hb1.size) B1.out.size))
    have DX := Lib.hid (fun X (hX : Below w1.heap.size w1 X) => slI_below HD.out (Nat.le_refl _) (below_trans B1.out (below_trans hb1 hX hb1.size) B1.out.size))
    have BX := Lib.hid (fun X (hX : Below w1.heap.size w1 X) => below_trans (below_trans B1.out hb1 B1.out.size) hX (Nat.le_trans B1.out.size hb1.size))
    clear hb1 z0 z1 z2 z3 z4
    obtain ⟨k0, k1, k2, k3, k4⟩ := KX.out w1 (Below.refl _ _)
    have lt := putS_len t
    have lm := putS_len m
    have ln := putS_len (np : Int)
    have PT := Lib.hid (fun X => rput5_any t X)
    have PM := Lib.hid (fun X => rput5_any m X)
    have PN := Lib.hid (fun X => rput5_any np X)
    obtain ⟨yt, hyt⟩ : ∃ y, putS t = y := ⟨_, rfl⟩
    obtain ⟨ym, hym⟩ : ∃ y, putS m = y := ⟨_, rfl⟩
    obtain ⟨yn, hyn⟩ : ∃ y, putS np = y := ⟨_, rfl⟩
    rw [hyt] at lt PT
    rw [hym] at lm PM
    rw [hyn] at ln PN
    have HH := Lib.hid (show encH ⟨t, m, ps, pl, dr⟩ = yt ++ ym ++ yn from by unfold encH; dsimp only; rw [HNP.out, hyt, hym, hyn])
    have s1 : ¬ 9223372036854775807 < yt.length + ym.length := by omega
    have s2 : ¬ 9223372036854775807 < yt.length + (ym.length + yn.length) := by omega
    have s3 : ¬ 9223372036854775807 < yt.length + ym.length + yn.length := by omega
    clear hyt hym hyn
    go_upto_region 4 with fail
    go_region_held3 (fun w' => w'.cell? ⟨q, 0, none⟩ = some (.int .i64 t) ∧ w'.cell? ⟨q, 1, none⟩ = some (.int .i64 m) ∧ w'.cell? ⟨q, 2, none⟩ = some (.slice ap np cp)) (go_keep)
      (first | (go_at_call 29; (with_reducible refine (PT.out _).mono ?_); rintro r w2 ⟨rfl, hb2⟩; have hb2' := below_drewS hb2; have B3 := Lib.hid hb2'; obtain ⟨f0, f1, f2, f3, f4⟩ := KX.out w2 hb2'; clear hb2 hb2') | (go_at_call 29; (with_reducible refine (PM.out _).mono ?_); rintro r w3 ⟨rfl, hb3⟩; have hb3' := below_trans B3.out hb3 B3.out.size; have B4 := Lib.hid hb3'; obtain ⟨g0, g1, g2, g3, g4⟩ := KX.out w3 hb3'; clear hb3 hb3') | (go_at_call 29; (with_reducible refine (PN.out _).mono ?_); rintro r w4 ⟨rfl, hb4⟩; have hb4' := below_trans B4.out hb4 B4.out.size; have B5 := Lib.hid hb4'; obtain ⟨h0, h1, h2, h3, h4⟩ := KX.out w4 hb4'; clear hb4 hb4'))
    go_wp2_with fail
    have HL4 := Lib.hid (show (encH ⟨t, m, ps, pl, dr⟩).length ≤ 21 from by rw [HH.out, List.length_append, List.length_append]; omega)
    obtain ⟨hd0, hhd⟩ : ∃ x, encH ⟨t, m, ps, pl, dr⟩ = x := ⟨_, rfl⟩
    rw [hhd] at HL4
    have HHD := Lib.hid hhd
    have HH2 := Lib.hid (show yt ++ (ym ++ yn) = hd0 from by rw [← hhd, HH.out, List.append_assoc])
    have HN8 := Lib.hid (show np ≤ 8 from by have := G.out.p; dsimp only at this; have := HNP.out; omega)
    clear hhd k0 k1 k2 k3 k4 f0 f1 f2 f3 f4 g0 g1 g2 g3 g4 h0 h1 h2 h3 h4 s1 s2 s3 lt lm ln
    go_loopw [39, 5] (fun i s wr => ∃ k : Nat, k ≤ np ∧ i = .int .i64 k ∧ s = bs (hd0 ++ (ps.take k).flatMap (encP np)) ∧ (hd0 ++ (ps.take k).flatMap (encP np)).length ≤ 21 + k * 7000 ∧ Below w1.heap.size w1 wr) (fun i _ _ => np - (intOf i).toNat)
    case atStart => exact ⟨0, by omega, rfl, by first | (rw [← HH2.out]; simp; done) | (rw [← HH2.out]; rfl), by simpa using HL4.out, B5.out⟩
    case round =>
      obtain ⟨k, hk, rfl, rfl, hlen, hbel⟩ := hrel
      have ST := Lib.hid hbel
      have HLEN := Lib.hid hlen
      clear hbel hlen
      have np8 := HN8.out
      by_cases hlt : k < np
      · have hlt' : (k : Int) < (np : Int) := by omega
        obtain ⟨b', o', u, rfl, c1, hu⟩ := (PX.out w1 (Below.refl _ _)).at k (by have := HNP.out; omega)
        obtain ⟨au, cu, rfl⟩ := hu.shape
        have NM := Lib.hid (show (ps.getD k []).length ≤ 32 from G.out.o k (by dsimp only; have := HNP.out; omega))
        have TS := Lib.hid (take_snocP (ps := ps) (k := k) (by have := HNP.out; omega) (np : Int))
        obtain ⟨p, hpp⟩ : ∃ p, ps.getD k [] = p := ⟨_, rfl⟩
        rw [hpp] at c1 hu NM TS
        obtain ⟨nm, hnm⟩ : ∃ n, p.length = n := ⟨_, rfl⟩
        rw [hnm] at c1 hu NM
        have HNM := Lib.hid hnm
        have HU := Lib.hid hu
        have c0 := (ST.out.cell (p := ⟨b', o' + k, none⟩) (block_lt_of_cell c1)).trans c1
        obtain ⟨xs, hxs⟩ : ∃ xs, hd0 ++ (ps.take k).flatMap (encP np) = xs := ⟨_, rfl⟩
        rw [hxs] at HLEN ⊢
        have HXS := Lib.hid hxs
        have nm32 := NM.out
        have PK := Lib.hid (fun X => rput5_any nm X)
        have lk := putS_len (nm : Int)
        obtain ⟨yk, hyk⟩ : ∃ y, putS nm = y := ⟨_, rfl⟩
        rw [hyk] at PK lk
        have HYK := Lib.hid hyk
        have s1 : ¬ 9223372036854775807 < xs.length + yk.length := by have := HLEN.out; omega
        clear hpp hnm hu c1 hxs hyk
        go_wp2_with fail
        refine (PK.out wr).mono ?_
        rintro r w5 ⟨rfl, hb5⟩
        have E5 := Lib.hid (below_trans ST.out hb5 ST.out.size)
        clear hb5 c0
        go_wp2_with fail
        go_loopw [50, 5] (fun i s wx => ∃ j : Nat, j ≤ nm ∧ i = .int .i64 j ∧ s = bs (xs ++ yk ++ (p.take j).flatMap (fun o => encO o np)) ∧ (xs ++ yk ++ (p.take j).flatMap (fun o => encO o np)).length ≤ 28 + k * 7000 + j * 200 ∧ Below w1.heap.size w1 wx) (fun i _ _ => nm - (intOf i).toNat)
        case atStart => exact ⟨0, by omega, rfl, by simp, by have := HLEN.out; simp; omega, E5.out⟩
        case round =>
          obtain ⟨j, hj, rfl, rfl, hlen2, hbel2⟩ := hrel
          have ST2 := Lib.hid hbel2
          have HLEN2 := Lib.hid hlen2
          clear hbel2 hlen2 s1
          by_cases hlt2 : j < nm
          · have hlt2' : (j : Int) < (nm : Int) := by omega
            obtain ⟨b2, o2, rfl, hop⟩ := (HU.out.below (Nat.le_refl _) ST2.out).at j (by have := HNM.out; omega)
            obtain ⟨v, ⟨d0, d1, d2, d3, d4⟩, hcs⟩ := opc_cells hop
            have TO := Lib.hid (take_snocO (p := p) (j := j) (by have := HNM.out; omega) (np : Int))
            obtain ⟨x, hx⟩ : ∃ x, p.getD j default = x := ⟨_, rfl⟩
            rw [hx] at d0 d1 d2 d4 hcs TO
            obtain ⟨xk, xa, xb, xcs, xdf⟩ := x
            dsimp only at d0 d1 d2 d4 hcs
            obtain ⟨ac, cc, rfl⟩ := hcs.shape
            obtain ⟨W6, hW6⟩ : ∃ W6, wr.alloc (.cells #[.int .i64 xk, .int .i64 xa, .int .i64 xb, .slice ac xcs.length cc, .bool xdf] 48) = W6 := ⟨_, rfl⟩
            obtain ⟨b6, z6⟩ := five_new hW6
            obtain ⟨e0, e1, e2, e3, e4⟩ := five_cells z6
            have E6 := Lib.hid (below_trans ST2.out b6 ST2.out.size)
            obtain ⟨f0, f1, f2, f3, f4⟩ := KX.out W6 E6.out
            have DC := rdencode_any ⟨xk, xa, xb, xcs, xdf⟩ (.slice ac xcs.length cc) np W6 (hcs.below (Nat.le_refl _) b6)
            have XL := encO_len ⟨xk, xa, xb, xcs, xdf⟩ np
            obtain ⟨zz, hz⟩ : ∃ z, chkO ⟨xk, xa, xb, xcs, xdf⟩ np = z := ⟨_, rfl⟩
            obtain ⟨y, hy⟩ : ∃ y, encO ⟨xk, xa, xb, xcs, xdf⟩ np = y := ⟨_, rfl⟩
            rw [hz, hy] at DC
            rw [hy] at TO XL
            unfold opV at DC
            dsimp only at DC
            obtain ⟨nc, hnc⟩ : ∃ n, xcs.length = n := ⟨_, rfl⟩
            rw [hnc] at d3 e3 DC hW6
            have DC1 := Lib.hid DC
            have HW6 := Lib.hid hW6
            obtain ⟨q6, hq6⟩ : ∃ q, wr.heap.size = q := ⟨_, rfl⟩
            rw [hq6] at e0 e1 e2 e3 e4
            have HQ6 := Lib.hid hq6
            obtain ⟨ys, hys⟩ : ∃ ys, xs ++ yk ++ (p.take j).flatMap (fun o => encO o np) = ys := ⟨_, rfl⟩
            rw [hys] at HLEN2 ⊢
            have HYS := Lib.hid hys
            have s2 : ¬ 9223372036854775807 < ys.length + y.length := by have := HLEN2.out; omega
            clear hx hcs hop hW6 b6 z6 DC hnc hz hy hq6 hys
            go_upto_region 12 with fail
            rw [HW6.out, HQ6.out]
            clear d0 d1 d2 d3 d4
            go_wp2_with fail
            refine DC1.out.mono ?_
            rintro r w8 ⟨rfl, hb8⟩
            have E8 := Lib.hid (below_trans E6.out hb8 E6.out.size)
            clear hb8 e0 e1 e2 e3 e4 f0 f1 f2 f3 f4
            have E9 := Lib.hid (show xs ++ yk ++ (p.take (j + 1)).flatMap (fun o => encO o np) = ys ++ y ∧ (xs ++ yk ++ (p.take (j + 1)).flatMap (fun o => encO o np)).length ≤ 28 + k * 7000 + (j + 1) * 200 from by
              rw [TO.out, ← List.append_assoc, HYS.out]
              exact ⟨rfl, by rw [List.length_append]; have := HLEN2.out; omega⟩)
            go_wp2_with fail
            go_roundw
            case rel => exact ⟨j + 1, by omega, by go_num, by rw [E9.out.1], E9.out.2, E8.out⟩
            case measure => simp [intOf] <;> omega
          · have ejm : nm = j := by omega
            subst ejm
            have E9 := Lib.hid (show xs ++ yk ++ (p.take nm).flatMap (fun o => encO o np) = hd0 ++ (ps.take (k + 1)).flatMap (encP np) ∧ (hd0 ++ (ps.take (k + 1)).flatMap (encP np)).length ≤ 21 + (k + 1) * 7000 from by
              have e2 := HLEN2.out
              rw [List.take_of_length_le (by have := HNM.out; omega), List.append_assoc] at e2
              rw [List.take_of_length_le (show p.length ≤ nm by have := HNM.out; omega), TS.out, ← List.append_assoc, HXS.out]
              unfold encP
              rw [HNM.out, HYK.out, List.append_assoc]
              exact ⟨rfl, by omega⟩)
            obtain ⟨ys, hys⟩ : ∃ ys, xs ++ yk ++ (p.take nm).flatMap (fun o => encO o np) = ys := ⟨_, rfl⟩
            rw [hys] at E9 ⊢
            clear hys
            go_wp2_with fail
            go_roundw
            case rel => exact ⟨k + 1, by omega, by go_num, by rw [E9.out.1], E9.out.2, ST2.out⟩
            case measure => simp [intOf] <;> omega
      · have ekn : np = k := by omega
        subst ekn
        have E9 := Lib.hid (show hd0 ++ (ps.take np).flatMap (encP np) = encB ⟨t, m, ps, pl, dr⟩ ∧ (encB ⟨t, m, ps, pl, dr⟩).length ≤ 60000 from by
          have e2 := HLEN.out
          rw [List.take_of_length_le (by have := HNP.out; omega)] at e2
          rw [List.take_of_length_le (show ps.length ≤ np by have := HNP.out; omega)]
          unfold encB
          dsimp only
          rw [HHD.out, HNP.out]
          exact ⟨rfl, by omega⟩)
        obtain ⟨bb, hbb⟩ : ∃ x, encB ⟨t, m, ps, pl, dr⟩ = x := ⟨_, rfl⟩
        rw [hbb] at E9 EN2
        rw [E9.out.1]
        obtain ⟨k0, k1, k2, k3, k4⟩ := KX.out wr ST.out
        have nl8 : nl ≤ 200 := by have := G.out.l; dsimp only at this; have := HNL.out; omega
        clear hbb hlt hk
        go_wp2_with fail
        go_loopw [70, 12] (fun i z wx => ∃ k : Nat, k ≤ nl ∧ i = .int .i64 k ∧ wx.ownsRow w1.heap.size 3 1 z k (ints ((pl.map incI).take k)) ∧ Below w1.heap.size w1 wx) (fun i _ _ => nl - (intOf i).toNat)
        case atStart => exact ⟨0, by omega, rfl, World.ownsRow_nil _ _ _ _, ST.out⟩
        case round =>
          obtain ⟨k, hk, rfl, hrow, hb⟩ := hrel
          obtain ⟨az, cz, rfl⟩ := owns_slice hrow
          have HB := Lib.hid hb
          have ROW := Lib.hid hrow
          clear hb hrow k0 k1 k2 k3 k4
          by_cases hlt : k < nl
          · have hlt' : (k : Int) < (nl : Int) := by omega
            obtain ⟨b', o', rfl, c0⟩ := slI_at (LX.out wr HB.out) k (by have := HNL.out; omega)
            obtain ⟨r0, r1⟩ := G.out.pl k (by dsimp only; have := HNL.out; omega)
            dsimp only at r0 r1
            have TK := Lib.hid (show (pl.map incI).take (k + 1) = (pl.map incI).take k ++ [incI (pl.getD k 0)] from by
              rw [List.take_add_one, List.getElem?_map, List.getD_eq_getElem?_getD, List.getElem?_eq_getElem (by have := HNL.out; omega)]; rfl)
            unfold incI at TK
            obtain ⟨x, hx⟩ : ∃ x, pl.getD k 0 = x := ⟨_, rfl⟩
            rw [hx] at c0 r0 r1 TK
            have SZ := HB.out.size
            have hw : IntKind.i64.wrap (x + 1) = x + 1 := IntWalk.i64_in (x + 1) (by omega)
            clear hx
            go_wp2_with (at_builtin; refine wpList_append_ints rfl _ _ rfl w1.heap.size (.slice az k cz) k _ rfl (show World.ownsRow _ _ _ _ _ _ _ from ROW.out.alloc _) wr.heap.size 1 1 [x + 1] rfl rfl (heap_alloc_new _ _) (by omega) (by omega) (by simp; omega) ?_)
            intro g7 cap7 w7 hown hgr
            have B7 := Lib.hid (show Below w1.heap.size w1 w7 from (HB.out.alloc HB.out.size (.cells #[.int .i64 (x + 1)] 3)).grown hgr (by simp; omega) (fun k hk => (ROW.out.lt k hk).1))
            have O7 := Lib.hid hown
            clear hown hgr c0
            go_wp2_with fail
            go_roundw
            case rel => exact ⟨k + 1, by omega, by go_num, by have e := TK.out; unfold incI; rw [e, ints_append]; exact O7.out, B7.out⟩
            case measure => simp [intOf] <;> omega
          · have ekn : nl = k := by omega
            subst ekn
            have S5 := Lib.hid (show SlI wr (.slice az nl cz) (pl.map incI) from by
              have e := ROW.out
              rw [List.take_of_length_le (by rw [List.length_map]; have := HNL.out; omega)] at e
              exact ownI_slI e)
            have LP : (pl.map incI).length ≤ 2000 := by rw [List.length_map]; have := HNL.out; omega
            have LD : dr.length ≤ 2000 := by have := G.out.d; dsimp only at this; omega
            have P1 := Lib.hid (fun v X (hX : SlI X v (pl.map incI)) => ref_putL_any v (pl.map incI) X hX LP)
            have P2 := Lib.hid (fun v X (hX : SlI X v dr) => ref_putL_any v dr X hX LD)
            obtain ⟨x1, hx1⟩ : ∃ x, putLS (pl.map incI) = x := ⟨_, rfl⟩
            obtain ⟨x2, hx2⟩ : ∃ x, putLS dr = x := ⟨_, rfl⟩
            obtain ⟨g1, hg1⟩ : ∃ x, putLE (pl.map incI) = x := ⟨_, rfl⟩
            obtain ⟨g2, hg2⟩ : ∃ x, putLE dr = x := ⟨_, rfl⟩
            have lx1 : x1.length ≤ 20000 := by rw [← hx1]; exact putLS_lenS _ LP
            have lx2 : x2.length ≤ 20000 := by rw [← hx2]; exact putLS_lenS _ LD
            rw [hx1, hg1] at P1
            rw [hx2, hg2] at P2
            rw [hx1, hx2] at EN2
            have lbb := E9.out.2
            have s1 : ¬ 9223372036854775807 < bb.length + x1.length := by omega
            have s2 : ¬ 9223372036854775807 < bb.length + (x1.length + x2.length) := by omega
            have s3 : ¬ 9223372036854775807 < bb.length + x1.length + x2.length := by omega
            clear hx1 hx2 hg1 hg2 lx1 lx2 lbb LP LD hlt hk
            go_wp2_with fail
            refine (P1.out _ wr S5.out).mono ?_
            rintro r w6 ⟨rfl, hb6⟩
            have E6 := Lib.hid (below_trans HB.out hb6 HB.out.size)
            clear hb6
            obtain ⟨k0, k1, k2, k3, k4⟩ := KX.out w6 E6.out
            go_wp2_with fail
            refine (P2.out _ w6 (DX.out w6 E6.out)).mono ?_
            rintro r w7 ⟨rfl, hb7⟩
            have E7 := Lib.hid (BX.out w7 (below_trans E6.out hb7 E6.out.size))
            clear hb7 k0 k1 k2 k3 k4
            go_wp2_with fail
            go_ret2
            exact ⟨by rw [EN2.out]; first | rfl | simp, E7.out⟩
  · have EN2 := Lib.hid (show encS ⟨t, m, ps, pl, dr⟩ = [] from by rw [EN.out, if_neg h0])
    have hd : (c == 0) = false := beq_eq_false_iff_ne.2 h0
    clear EN GO h0
    go_enter Try.func11, Try.ntmps11
    go_upto_region 1 with fail
    rw [HW.out, HQ.out]
    go_wp2_with fail
    refine CK1.out.mono ?_
    rintro r w1 ⟨rfl, hb1⟩
    have B2 := Lib.hid (below_trans B1.out hb1 B1.out.size)
    clear hb1
    go_wp2_with fail
    go_ret2
    exact ⟨by rw [EN2.out]; rfl, B2.out⟩
end Go.Proofs.Ytpefjcmaggimhaa

