/-
  The walk of the statement ClockJoins (printed by wip/gen02b.py).
-/
import Derived.Test.YtgomeofifaejfaaFam
namespace Go.Proofs.Ytgomeofifaejfaa
open Go.RowKit
set_option linter.unusedVariables false
set_option linter.unusedSimpArgs false
set_option maxRecDepth 100000

theorem ne0_true' {x : Int} (h : x ≠ 0) : (x != 0) = true := by simpa using h

set_option maxHeartbeats 2000000 in
theorem joins_law (va vb vc : Value) (a b c : List Int) (w : World) (ha : Src w va a) (hb : Src w vb b) (hc : Src w vc c) :
    Calls Try.prog 4 #[va, vb, vc] w (RetB (.bool true) w) := by
  by_cases ea : ofE a = 0
  · by_cases eb : ofE b = 0
    · by_cases ec : ofE c = 0
      · have S0 := St.start w
        go_enter Try.func4, Try.ntmps4
        go_wp2_with fail
        refine (st_of S0 va a ha ea).mono ?_
        rintro r w1 ⟨gx, kx1, F1, rfl, hx, S1, l, N, R, B⟩
        have hb' := hb.below (Nat.le_refl _) B
        have hc' := hc.below (Nat.le_refl _) B
        have Lx1 := Lib.hid l
        have Vx1 := Lib.hid (show ∀ u : Int, at0 kx1.xs u = at0 a u from fun u => by rw [hx])
        clear hx l N R B
        go_wp2_with fail
        refine (st_of S1 vb b hb' eb).mono ?_
        rintro r w2 ⟨gy, ky2, F2, rfl, hx, S2, l, N, R, B⟩
        have hc'' := hc'.below (Nat.le_refl _) B
        have Dxy := Lib.hid (N gx kx1 Lx1.out)
        have Lx2 := Lib.hid (R gx kx1 Dxy.out Lx1.out)
        clear Lx1
        have Ly2 := Lib.hid l
        have Vy2 := Lib.hid (show ∀ u : Int, at0 ky2.xs u = at0 b u from fun u => by rw [hx])
        clear hx l N R B
        go_wp2_with fail
        refine (st_of S2 vc c hc'' ec).mono ?_
        rintro r w3 ⟨gz, kz3, F3, rfl, hx, S3, l, N, R, B⟩
        have Dxz := Lib.hid (N gx kx1 Lx2.out)
        have Lx3 := Lib.hid (R gx kx1 Dxz.out Lx2.out)
        clear Lx2
        have Dyz := Lib.hid (N gy ky2 Ly2.out)
        have Ly3 := Lib.hid (R gy ky2 Dyz.out Ly2.out)
        clear Ly2
        have Lz3 := Lib.hid l
        have Vz3 := Lib.hid (show ∀ u : Int, at0 kz3.xs u = at0 c u from fun u => by rw [hx])
        clear hx l N R B
        go_wp2_with fail
        refine (st_copy S3 gx kx1 Lx3.out).mono ?_
        rintro r w4 ⟨gp, kx4, kp4, F4, rfl, S4, l1, e1, l2, e2, N, R⟩
        have Dxp := Lib.hid (N gx kx1 Lx3.out)
        have Dyp := Lib.hid (N gy ky2 Ly3.out)
        have Dzp := Lib.hid (N gz kz3 Lz3.out)
        have Ly4 := Lib.hid (R gy ky2 (Ne.symm Dxy.out) Ly3.out)
        clear Ly3
        have Lz4 := Lib.hid (R gz kz3 (Ne.symm Dxz.out) Lz3.out)
        clear Lz3
        have Lx4 := Lib.hid l1
        have Lp4 := Lib.hid l2
        have Vx4 := Lib.hid (show ∀ u : Int, at0 kx4.xs u = at0 a u from fun u => by rw [e1]; exact Vx1.out u)
        have Vp4 := Lib.hid (show ∀ u : Int, at0 kp4.xs u = at0 a u from fun u => by rw [e2]; exact Vx1.out u)
        clear Lx3 Vx1 e1 e2 l1 l2 N R
        go_wp2_with fail
        refine (st_join S4 gp gy kp4 ky2 Lp4.out Ly4.out (Ne.symm Dyp.out)).mono ?_
        rintro r w5 ⟨kp5, F5, rfl, S5, l, hm, R⟩
        have Lx5 := Lib.hid (R gx kx4 Dxp.out Lx4.out)
        have Ly5 := Lib.hid (R gy ky2 Dyp.out Ly4.out)
        have Lz5 := Lib.hid (R gz kz3 Dzp.out Lz4.out)
        have Lp5 := Lib.hid l
        have Vp5 := Lib.hid (show ∀ u : Int, at0 kp5.xs u = max (at0 a u) (at0 b u) from fun u => by rw [hm u, Vp4.out u, Vy2.out u])
        clear l hm R Vp4 Lx4 Ly4 Lz4 Lp4
        go_wp2_with fail
        refine (st_copy S5 gy ky2 Ly5.out).mono ?_
        rintro r w6 ⟨gq, ky6, kq6, F6, rfl, S6, l1, e1, l2, e2, N, R⟩
        have Dxq := Lib.hid (N gx kx4 Lx5.out)
        have Dyq := Lib.hid (N gy ky2 Ly5.out)
        have Dzq := Lib.hid (N gz kz3 Lz5.out)
        have Dpq := Lib.hid (N gp kp5 Lp5.out)
        have Lx6 := Lib.hid (R gx kx4 Dxy.out Lx5.out)
        clear Lx5
        have Lz6 := Lib.hid (R gz kz3 (Ne.symm Dyz.out) Lz5.out)
        clear Lz5
        have Lp6 := Lib.hid (R gp kp5 (Ne.symm Dyp.out) Lp5.out)
        clear Lp5
        have Ly6 := Lib.hid l1
        have Lq6 := Lib.hid l2
        have Vy6 := Lib.hid (show ∀ u : Int, at0 ky6.xs u = at0 b u from fun u => by rw [e1]; exact Vy2.out u)
        have Vq6 := Lib.hid (show ∀ u : Int, at0 kq6.xs u = at0 b u from fun u => by rw [e2]; exact Vy2.out u)
        clear Ly5 Vy2 e1 e2 l1 l2 N R
        go_wp2_with fail
        refine (st_join S6 gq gx kq6 kx4 Lq6.out Lx6.out (Ne.symm Dxq.out)).mono ?_
        rintro r w7 ⟨kq7, F7, rfl, S7, l, hm, R⟩
        have Lx7 := Lib.hid (R gx kx4 Dxq.out Lx6.out)
        have Ly7 := Lib.hid (R gy ky6 Dyq.out Ly6.out)
        have Lz7 := Lib.hid (R gz kz3 Dzq.out Lz6.out)
        have Lp7 := Lib.hid (R gp kp5 Dpq.out Lp6.out)
        have Lq7 := Lib.hid l
        have Vq7 := Lib.hid (show ∀ u : Int, at0 kq7.xs u = max (at0 b u) (at0 a u) from fun u => by rw [hm u, Vq6.out u, Vx4.out u])
        clear l hm R Vq6 Lx6 Ly6 Lz6 Lp6 Lq6
        go_wp2_with fail
        refine (st_list S7 gp kp5 Lp7.out).mono ?_
        rintro r w8 ⟨v1, rfl, s1, S8, B1⟩
        go_wp2_with fail
        refine (st_list S8 gq kq7 Lq7.out).mono ?_
        rintro r w9 ⟨v2, rfl, s2, S9, B2⟩
        have s1' := s1.below (Nat.le_refl _) B2
        go_wp2_with fail
        refine (st_ints S9 v1 v2 (trim kp5.xs) (trim kq7.xs) s1' s2 (trim_small (S9.ok Lp7.out)) (trim_small (S9.ok Lq7.out)) true (decide_eq_true (trim_ext fun u => by rw [Vp5.out u, Vq7.out u]; omega))).mono ?_
        rintro r w10 ⟨rfl, S10, B3⟩
        clear s1 s1' s2 B1 B2 B3
        have hxp : withinB kx4.xs kp5.xs = true := (withinB_iff (S10.ok Lp7.out)).2 fun u => by rw [Vx4.out u, Vp5.out u]; omega
        go_wp2_with fail
        refine (st_within S10 gx gp kx4 kp5 Lx7.out Lp7.out true hxp).mono ?_
        rintro r w' ⟨rfl, rfl⟩
        have hyp : withinB ky6.xs kp5.xs = true := (withinB_iff (S10.ok Lp7.out)).2 fun u => by rw [Vy6.out u, Vp5.out u]; omega
        go_wp2_with fail
        refine (st_within S10 gy gp ky6 kp5 Ly7.out Lp7.out true hyp).mono ?_
        rintro r w' ⟨rfl, rfl⟩
        clear hxp hyp
        go_wp2_with fail
        have hk11 : withinB kx4.xs kp5.xs = true := (withinB_iff (S10.ok Lp7.out)).2 fun u => by rw [Vx4.out u, Vp5.out u]; omega
        refine (st_join S10 gp gx kp5 kx4 Lp7.out Lx7.out (Ne.symm Dxp.out)).mono ?_
        rintro r w11 ⟨kp11, F11, rfl, S11, l, hm, R⟩
        rw [hk11]
        clear hk11
        have Lx11 := Lib.hid (R gx kx4 Dxp.out Lx7.out)
        have Ly11 := Lib.hid (R gy ky6 Dyp.out Ly7.out)
        have Lz11 := Lib.hid (R gz kz3 Dzp.out Lz7.out)
        have Lq11 := Lib.hid (R gq kq7 (Ne.symm Dpq.out) Lq7.out)
        have Lp11 := Lib.hid l
        have Vp11 := Lib.hid (show ∀ u : Int, at0 kp11.xs u = max (max (at0 a u) (at0 b u)) (at0 a u) from fun u => by rw [hm u, Vp5.out u, Vx4.out u])
        clear l hm R Vp5 Lx7 Ly7 Lz7 Lp7 Lq7
        go_wp2_with fail
        have hk12 : withinB ky6.xs kp11.xs = true := (withinB_iff (S11.ok Lp11.out)).2 fun u => by rw [Vy6.out u, Vp11.out u]; omega
        refine (st_join S11 gp gy kp11 ky6 Lp11.out Ly11.out (Ne.symm Dyp.out)).mono ?_
        rintro r w12 ⟨kp12, F12, rfl, S12, l, hm, R⟩
        rw [hk12]
        clear hk12
        have Lx12 := Lib.hid (R gx kx4 Dxp.out Lx11.out)
        have Ly12 := Lib.hid (R gy ky6 Dyp.out Ly11.out)
        have Lz12 := Lib.hid (R gz kz3 Dzp.out Lz11.out)
        have Lq12 := Lib.hid (R gq kq7 (Ne.symm Dpq.out) Lq11.out)
        have Lp12 := Lib.hid l
        have Vp12 := Lib.hid (show ∀ u : Int, at0 kp12.xs u = max (max (max (at0 a u) (at0 b u)) (at0 a u)) (at0 b u) from fun u => by rw [hm u, Vp11.out u, Vy6.out u])
        clear l hm R Vp11 Lx11 Ly11 Lz11 Lp11 Lq11
        go_wp2_with fail
        cases hxz : withinB kx4.xs kz3.xs with
        | false =>
          go_wp2_with fail
          refine (st_within S12 gx gz kx4 kz3 Lx12.out Lz12.out false hxz).mono ?_
          rintro r w' ⟨rfl, rfl⟩
          clear hxz
          go_wp2_with fail
          refine (st_join S12 gp gz kp12 kz3 Lp12.out Lz12.out (Ne.symm Dzp.out)).mono ?_
          rintro r w13 ⟨kp13, F13, rfl, S13, l, hm, R⟩
          have Lx13 := Lib.hid (R gx kx4 Dxp.out Lx12.out)
          have Ly13 := Lib.hid (R gy ky6 Dyp.out Ly12.out)
          have Lz13 := Lib.hid (R gz kz3 Dzp.out Lz12.out)
          have Lq13 := Lib.hid (R gq kq7 (Ne.symm Dpq.out) Lq12.out)
          have Lp13 := Lib.hid l
          have Vp13 := Lib.hid (show ∀ u : Int, at0 kp13.xs u = max (max (max (max (at0 a u) (at0 b u)) (at0 a u)) (at0 b u)) (at0 c u) from fun u => by rw [hm u, Vp12.out u, Vz3.out u])
          clear l hm R Vp12 Lx12 Ly12 Lz12 Lp12 Lq12
          go_wp2_with fail
          refine (st_copy S13 gz kz3 Lz13.out).mono ?_
          rintro r w14 ⟨gr, kz14, kr14, F14, rfl, S14, l1, e1, l2, e2, N, R⟩
          have Dxr := Lib.hid (N gx kx4 Lx13.out)
          have Dyr := Lib.hid (N gy ky6 Ly13.out)
          have Dzr := Lib.hid (N gz kz3 Lz13.out)
          have Dpr := Lib.hid (N gp kp13 Lp13.out)
          have Dqr := Lib.hid (N gq kq7 Lq13.out)
          have Lx14 := Lib.hid (R gx kx4 Dxz.out Lx13.out)
          clear Lx13
          have Ly14 := Lib.hid (R gy ky6 Dyz.out Ly13.out)
          clear Ly13
          have Lp14 := Lib.hid (R gp kp13 (Ne.symm Dzp.out) Lp13.out)
          clear Lp13
          have Lq14 := Lib.hid (R gq kq7 (Ne.symm Dzq.out) Lq13.out)
          clear Lq13
          have Lz14 := Lib.hid l1
          have Lr14 := Lib.hid l2
          have Vz14 := Lib.hid (show ∀ u : Int, at0 kz14.xs u = at0 c u from fun u => by rw [e1]; exact Vz3.out u)
          have Vr14 := Lib.hid (show ∀ u : Int, at0 kr14.xs u = at0 c u from fun u => by rw [e2]; exact Vz3.out u)
          clear Lz13 Vz3 e1 e2 l1 l2 N R
          go_wp2_with fail
          refine (st_join S14 gr gy kr14 ky6 Lr14.out Ly14.out (Ne.symm Dyr.out)).mono ?_
          rintro r w15 ⟨kr15, F15, rfl, S15, l, hm, R⟩
          have Lx15 := Lib.hid (R gx kx4 Dxr.out Lx14.out)
          have Ly15 := Lib.hid (R gy ky6 Dyr.out Ly14.out)
          have Lz15 := Lib.hid (R gz kz14 Dzr.out Lz14.out)
          have Lp15 := Lib.hid (R gp kp13 Dpr.out Lp14.out)
          have Lq15 := Lib.hid (R gq kq7 Dqr.out Lq14.out)
          have Lr15 := Lib.hid l
          have Vr15 := Lib.hid (show ∀ u : Int, at0 kr15.xs u = max (at0 c u) (at0 b u) from fun u => by rw [hm u, Vr14.out u, Vy6.out u])
          clear l hm R Vr14 Lx14 Ly14 Lz14 Lp14 Lq14 Lr14
          go_wp2_with fail
          refine (st_join S15 gr gx kr15 kx4 Lr15.out Lx15.out (Ne.symm Dxr.out)).mono ?_
          rintro r w16 ⟨kr16, F16, rfl, S16, l, hm, R⟩
          have Lx16 := Lib.hid (R gx kx4 Dxr.out Lx15.out)
          have Ly16 := Lib.hid (R gy ky6 Dyr.out Ly15.out)
          have Lz16 := Lib.hid (R gz kz14 Dzr.out Lz15.out)
          have Lp16 := Lib.hid (R gp kp13 Dpr.out Lp15.out)
          have Lq16 := Lib.hid (R gq kq7 Dqr.out Lq15.out)
          have Lr16 := Lib.hid l
          have Vr16 := Lib.hid (show ∀ u : Int, at0 kr16.xs u = max (max (at0 c u) (at0 b u)) (at0 a u) from fun u => by rw [hm u, Vr15.out u, Vx4.out u])
          clear l hm R Vr15 Lx15 Ly15 Lz15 Lp15 Lq15 Lr15
          go_wp2_with fail
          refine (st_list S16 gp kp13 Lp16.out).mono ?_
          rintro r w17 ⟨v1, rfl, s1, S17, B1⟩
          go_wp2_with fail
          refine (st_list S17 gr kr16 Lr16.out).mono ?_
          rintro r w18 ⟨v2, rfl, s2, S18, B2⟩
          have s1' := s1.below (Nat.le_refl _) B2
          go_wp2_with fail
          refine (st_ints S18 v1 v2 (trim kp13.xs) (trim kr16.xs) s1' s2 (trim_small (S18.ok Lp16.out)) (trim_small (S18.ok Lr16.out)) true (decide_eq_true (trim_ext fun u => by rw [Vp13.out u, Vr16.out u]; omega))).mono ?_
          rintro r w19 ⟨rfl, S19, B3⟩
          clear s1 s1' s2 B1 B2 B3
          go_wp2_with fail
          refine (joins_any _).mono ?_
          rintro r w20 ⟨rfl, B⟩
          have BF := Lib.hid (below_trans S19.bel B S19.bel.size)
          clear B
          go_wp2_with fail
          go_ret
          exact ⟨rfl, BF.out⟩
        | true =>
          go_wp2_with fail
          refine (st_within S12 gx gz kx4 kz3 Lx12.out Lz12.out true hxz).mono ?_
          rintro r w' ⟨rfl, rfl⟩
          go_wp2_with fail
          cases hyz : withinB ky6.xs kz3.xs with
          | false =>
            go_wp2_with fail
            refine (st_within S12 gy gz ky6 kz3 Ly12.out Lz12.out false hyz).mono ?_
            rintro r w' ⟨rfl, rfl⟩
            clear hxz hyz
            go_wp2_with fail
            refine (st_join S12 gp gz kp12 kz3 Lp12.out Lz12.out (Ne.symm Dzp.out)).mono ?_
            rintro r w13 ⟨kp13, F13, rfl, S13, l, hm, R⟩
            have Lx13 := Lib.hid (R gx kx4 Dxp.out Lx12.out)
            have Ly13 := Lib.hid (R gy ky6 Dyp.out Ly12.out)
            have Lz13 := Lib.hid (R gz kz3 Dzp.out Lz12.out)
            have Lq13 := Lib.hid (R gq kq7 (Ne.symm Dpq.out) Lq12.out)
            have Lp13 := Lib.hid l
            have Vp13 := Lib.hid (show ∀ u : Int, at0 kp13.xs u = max (max (max (max (at0 a u) (at0 b u)) (at0 a u)) (at0 b u)) (at0 c u) from fun u => by rw [hm u, Vp12.out u, Vz3.out u])
            clear l hm R Vp12 Lx12 Ly12 Lz12 Lp12 Lq12
            go_wp2_with fail
            refine (st_copy S13 gz kz3 Lz13.out).mono ?_
            rintro r w14 ⟨gr, kz14, kr14, F14, rfl, S14, l1, e1, l2, e2, N, R⟩
            have Dxr := Lib.hid (N gx kx4 Lx13.out)
            have Dyr := Lib.hid (N gy ky6 Ly13.out)
            have Dzr := Lib.hid (N gz kz3 Lz13.out)
            have Dpr := Lib.hid (N gp kp13 Lp13.out)
            have Dqr := Lib.hid (N gq kq7 Lq13.out)
            have Lx14 := Lib.hid (R gx kx4 Dxz.out Lx13.out)
            clear Lx13
            have Ly14 := Lib.hid (R gy ky6 Dyz.out Ly13.out)
            clear Ly13
            have Lp14 := Lib.hid (R gp kp13 (Ne.symm Dzp.out) Lp13.out)
            clear Lp13
            have Lq14 := Lib.hid (R gq kq7 (Ne.symm Dzq.out) Lq13.out)
            clear Lq13
            have Lz14 := Lib.hid l1
            have Lr14 := Lib.hid l2
            have Vz14 := Lib.hid (show ∀ u : Int, at0 kz14.xs u = at0 c u from fun u => by rw [e1]; exact Vz3.out u)
            have Vr14 := Lib.hid (show ∀ u : Int, at0 kr14.xs u = at0 c u from fun u => by rw [e2]; exact Vz3.out u)
            clear Lz13 Vz3 e1 e2 l1 l2 N R
            go_wp2_with fail
            refine (st_join S14 gr gy kr14 ky6 Lr14.out Ly14.out (Ne.symm Dyr.out)).mono ?_
            rintro r w15 ⟨kr15, F15, rfl, S15, l, hm, R⟩
            have Lx15 := Lib.hid (R gx kx4 Dxr.out Lx14.out)
            have Ly15 := Lib.hid (R gy ky6 Dyr.out Ly14.out)
            have Lz15 := Lib.hid (R gz kz14 Dzr.out Lz14.out)
            have Lp15 := Lib.hid (R gp kp13 Dpr.out Lp14.out)
            have Lq15 := Lib.hid (R gq kq7 Dqr.out Lq14.out)
            have Lr15 := Lib.hid l
            have Vr15 := Lib.hid (show ∀ u : Int, at0 kr15.xs u = max (at0 c u) (at0 b u) from fun u => by rw [hm u, Vr14.out u, Vy6.out u])
            clear l hm R Vr14 Lx14 Ly14 Lz14 Lp14 Lq14 Lr14
            go_wp2_with fail
            refine (st_join S15 gr gx kr15 kx4 Lr15.out Lx15.out (Ne.symm Dxr.out)).mono ?_
            rintro r w16 ⟨kr16, F16, rfl, S16, l, hm, R⟩
            have Lx16 := Lib.hid (R gx kx4 Dxr.out Lx15.out)
            have Ly16 := Lib.hid (R gy ky6 Dyr.out Ly15.out)
            have Lz16 := Lib.hid (R gz kz14 Dzr.out Lz15.out)
            have Lp16 := Lib.hid (R gp kp13 Dpr.out Lp15.out)
            have Lq16 := Lib.hid (R gq kq7 Dqr.out Lq15.out)
            have Lr16 := Lib.hid l
            have Vr16 := Lib.hid (show ∀ u : Int, at0 kr16.xs u = max (max (at0 c u) (at0 b u)) (at0 a u) from fun u => by rw [hm u, Vr15.out u, Vx4.out u])
            clear l hm R Vr15 Lx15 Ly15 Lz15 Lp15 Lq15 Lr15
            go_wp2_with fail
            refine (st_list S16 gp kp13 Lp16.out).mono ?_
            rintro r w17 ⟨v1, rfl, s1, S17, B1⟩
            go_wp2_with fail
            refine (st_list S17 gr kr16 Lr16.out).mono ?_
            rintro r w18 ⟨v2, rfl, s2, S18, B2⟩
            have s1' := s1.below (Nat.le_refl _) B2
            go_wp2_with fail
            refine (st_ints S18 v1 v2 (trim kp13.xs) (trim kr16.xs) s1' s2 (trim_small (S18.ok Lp16.out)) (trim_small (S18.ok Lr16.out)) true (decide_eq_true (trim_ext fun u => by rw [Vp13.out u, Vr16.out u]; omega))).mono ?_
            rintro r w19 ⟨rfl, S19, B3⟩
            clear s1 s1' s2 B1 B2 B3
            go_wp2_with fail
            refine (joins_any _).mono ?_
            rintro r w20 ⟨rfl, B⟩
            have BF := Lib.hid (below_trans S19.bel B S19.bel.size)
            clear B
            go_wp2_with fail
            go_ret
            exact ⟨rfl, BF.out⟩
          | true =>
            go_wp2_with fail
            refine (st_within S12 gy gz ky6 kz3 Ly12.out Lz12.out true hyz).mono ?_
            rintro r w' ⟨rfl, rfl⟩
            have hpz : withinB kp12.xs kz3.xs = true := (withinB_iff (S12.ok Lz12.out)).2 fun u => by
              have h1 := (withinB_iff (S12.ok Lz12.out)).1 hxz u
              have h2 := (withinB_iff (S12.ok Lz12.out)).1 hyz u
              rw [Vx4.out u, Vz3.out u] at h1
              rw [Vy6.out u, Vz3.out u] at h2
              rw [Vp12.out u, Vz3.out u]; omega
            clear hxz hyz
            go_wp2_with fail
            refine (st_within S12 gp gz kp12 kz3 Lp12.out Lz12.out true hpz).mono ?_
            rintro r w' ⟨rfl, rfl⟩
            clear hpz
            go_wp2_with fail
            refine (st_join S12 gp gz kp12 kz3 Lp12.out Lz12.out (Ne.symm Dzp.out)).mono ?_
            rintro r w13 ⟨kp13, F13, rfl, S13, l, hm, R⟩
            have Lx13 := Lib.hid (R gx kx4 Dxp.out Lx12.out)
            have Ly13 := Lib.hid (R gy ky6 Dyp.out Ly12.out)
            have Lz13 := Lib.hid (R gz kz3 Dzp.out Lz12.out)
            have Lq13 := Lib.hid (R gq kq7 (Ne.symm Dpq.out) Lq12.out)
            have Lp13 := Lib.hid l
            have Vp13 := Lib.hid (show ∀ u : Int, at0 kp13.xs u = max (max (max (max (at0 a u) (at0 b u)) (at0 a u)) (at0 b u)) (at0 c u) from fun u => by rw [hm u, Vp12.out u, Vz3.out u])
            clear l hm R Vp12 Lx12 Ly12 Lz12 Lp12 Lq12
            go_wp2_with fail
            refine (st_copy S13 gz kz3 Lz13.out).mono ?_
            rintro r w14 ⟨gr, kz14, kr14, F14, rfl, S14, l1, e1, l2, e2, N, R⟩
            have Dxr := Lib.hid (N gx kx4 Lx13.out)
            have Dyr := Lib.hid (N gy ky6 Ly13.out)
            have Dzr := Lib.hid (N gz kz3 Lz13.out)
            have Dpr := Lib.hid (N gp kp13 Lp13.out)
            have Dqr := Lib.hid (N gq kq7 Lq13.out)
            have Lx14 := Lib.hid (R gx kx4 Dxz.out Lx13.out)
            clear Lx13
            have Ly14 := Lib.hid (R gy ky6 Dyz.out Ly13.out)
            clear Ly13
            have Lp14 := Lib.hid (R gp kp13 (Ne.symm Dzp.out) Lp13.out)
            clear Lp13
            have Lq14 := Lib.hid (R gq kq7 (Ne.symm Dzq.out) Lq13.out)
            clear Lq13
            have Lz14 := Lib.hid l1
            have Lr14 := Lib.hid l2
            have Vz14 := Lib.hid (show ∀ u : Int, at0 kz14.xs u = at0 c u from fun u => by rw [e1]; exact Vz3.out u)
            have Vr14 := Lib.hid (show ∀ u : Int, at0 kr14.xs u = at0 c u from fun u => by rw [e2]; exact Vz3.out u)
            clear Lz13 Vz3 e1 e2 l1 l2 N R
            go_wp2_with fail
            refine (st_join S14 gr gy kr14 ky6 Lr14.out Ly14.out (Ne.symm Dyr.out)).mono ?_
            rintro r w15 ⟨kr15, F15, rfl, S15, l, hm, R⟩
            have Lx15 := Lib.hid (R gx kx4 Dxr.out Lx14.out)
            have Ly15 := Lib.hid (R gy ky6 Dyr.out Ly14.out)
            have Lz15 := Lib.hid (R gz kz14 Dzr.out Lz14.out)
            have Lp15 := Lib.hid (R gp kp13 Dpr.out Lp14.out)
            have Lq15 := Lib.hid (R gq kq7 Dqr.out Lq14.out)
            have Lr15 := Lib.hid l
            have Vr15 := Lib.hid (show ∀ u : Int, at0 kr15.xs u = max (at0 c u) (at0 b u) from fun u => by rw [hm u, Vr14.out u, Vy6.out u])
            clear l hm R Vr14 Lx14 Ly14 Lz14 Lp14 Lq14 Lr14
            go_wp2_with fail
            refine (st_join S15 gr gx kr15 kx4 Lr15.out Lx15.out (Ne.symm Dxr.out)).mono ?_
            rintro r w16 ⟨kr16, F16, rfl, S16, l, hm, R⟩
            have Lx16 := Lib.hid (R gx kx4 Dxr.out Lx15.out)
            have Ly16 := Lib.hid (R gy ky6 Dyr.out Ly15.out)
            have Lz16 := Lib.hid (R gz kz14 Dzr.out Lz15.out)
            have Lp16 := Lib.hid (R gp kp13 Dpr.out Lp15.out)
            have Lq16 := Lib.hid (R gq kq7 Dqr.out Lq15.out)
            have Lr16 := Lib.hid l
            have Vr16 := Lib.hid (show ∀ u : Int, at0 kr16.xs u = max (max (at0 c u) (at0 b u)) (at0 a u) from fun u => by rw [hm u, Vr15.out u, Vx4.out u])
            clear l hm R Vr15 Lx15 Ly15 Lz15 Lp15 Lq15 Lr15
            go_wp2_with fail
            refine (st_list S16 gp kp13 Lp16.out).mono ?_
            rintro r w17 ⟨v1, rfl, s1, S17, B1⟩
            go_wp2_with fail
            refine (st_list S17 gr kr16 Lr16.out).mono ?_
            rintro r w18 ⟨v2, rfl, s2, S18, B2⟩
            have s1' := s1.below (Nat.le_refl _) B2
            go_wp2_with fail
            refine (st_ints S18 v1 v2 (trim kp13.xs) (trim kr16.xs) s1' s2 (trim_small (S18.ok Lp16.out)) (trim_small (S18.ok Lr16.out)) true (decide_eq_true (trim_ext fun u => by rw [Vp13.out u, Vr16.out u]; omega))).mono ?_
            rintro r w19 ⟨rfl, S19, B3⟩
            clear s1 s1' s2 B1 B2 B3
            go_wp2_with fail
            refine (joins_any _).mono ?_
            rintro r w20 ⟨rfl, B⟩
            have BF := Lib.hid (below_trans S19.bel B S19.bel.size)
            clear B
            go_wp2_with fail
            go_ret
            exact ⟨rfl, BF.out⟩
      · have nc := ne0_true' ec
        go_enter Try.func4, Try.ntmps4
        go_wp2_with fail
        refine (of_weak va a _ ha).mono ?_
        rintro r w1 ⟨p1, rfl, B1⟩
        have hb1 := hb.below (Nat.le_refl _) B1
        have hc1 := hc.below (Nat.le_refl _) B1
        go_wp2_with fail
        refine (of_weak vb b _ hb1).mono ?_
        rintro r w2 ⟨p2, rfl, B2⟩
        have hc2 := hc1.below (Nat.le_refl _) B2
        go_wp2_with fail
        refine (of_weak vc c _ hc2).mono ?_
        rintro r w3 ⟨p3, rfl, B3⟩
        have BF := Lib.hid (below_trans (below_trans B1 B2 B1.size) B3 (Nat.le_trans B1.size B2.size))
        have S3 := Lib.hid (Nat.le_trans B1.size (Nat.le_trans B2.size B3.size))
        clear hb1 hc1 hc2 B1 B2 B3
        go_wp2_with fail
        refine (joins_any _).mono ?_
        rintro r w4 ⟨rfl, B4⟩
        have BG := Lib.hid (below_trans BF.out B4 S3.out)
        clear B4
        go_wp2_with fail
        go_ret
        exact ⟨rfl, BG.out⟩
    · have nb := ne0_true' eb
      go_enter Try.func4, Try.ntmps4
      go_wp2_with fail
      refine (of_weak va a _ ha).mono ?_
      rintro r w1 ⟨p1, rfl, B1⟩
      have hb1 := hb.below (Nat.le_refl _) B1
      have hc1 := hc.below (Nat.le_refl _) B1
      go_wp2_with fail
      refine (of_weak vb b _ hb1).mono ?_
      rintro r w2 ⟨p2, rfl, B2⟩
      have hc2 := hc1.below (Nat.le_refl _) B2
      go_wp2_with fail
      refine (of_weak vc c _ hc2).mono ?_
      rintro r w3 ⟨p3, rfl, B3⟩
      have BF := Lib.hid (below_trans (below_trans B1 B2 B1.size) B3 (Nat.le_trans B1.size B2.size))
      have S3 := Lib.hid (Nat.le_trans B1.size (Nat.le_trans B2.size B3.size))
      clear hb1 hc1 hc2 B1 B2 B3
      go_wp2_with fail
      refine (joins_any _).mono ?_
      rintro r w4 ⟨rfl, B4⟩
      have BG := Lib.hid (below_trans BF.out B4 S3.out)
      clear B4
      go_wp2_with fail
      go_ret
      exact ⟨rfl, BG.out⟩
  · have na := ne0_true' ea
    go_enter Try.func4, Try.ntmps4
    go_wp2_with fail
    refine (of_weak va a _ ha).mono ?_
    rintro r w1 ⟨p1, rfl, B1⟩
    have hb1 := hb.below (Nat.le_refl _) B1
    have hc1 := hc.below (Nat.le_refl _) B1
    go_wp2_with fail
    refine (of_weak vb b _ hb1).mono ?_
    rintro r w2 ⟨p2, rfl, B2⟩
    have hc2 := hc1.below (Nat.le_refl _) B2
    go_wp2_with fail
    refine (of_weak vc c _ hc2).mono ?_
    rintro r w3 ⟨p3, rfl, B3⟩
    have BF := Lib.hid (below_trans (below_trans B1 B2 B1.size) B3 (Nat.le_trans B1.size B2.size))
    have S3 := Lib.hid (Nat.le_trans B1.size (Nat.le_trans B2.size B3.size))
    clear hb1 hc1 hc2 B1 B2 B3
    go_wp2_with fail
    refine (joins_any _).mono ?_
    rintro r w4 ⟨rfl, B4⟩
    have BG := Lib.hid (below_trans BF.out B4 S3.out)
    clear B4
    go_wp2_with fail
    go_ret
    exact ⟨rfl, BG.out⟩

end Go.Proofs.Ytgomeofifaejfaa
