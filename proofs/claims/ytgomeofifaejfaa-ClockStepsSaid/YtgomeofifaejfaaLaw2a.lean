
/-
  The walk of the statement ClockOrder (printed by wip/gen02.py).
-/
import Derived.Test.YtgomeofifaejfaaClkI
namespace Go.Proofs.Ytgomeofifaejfaa
open Go.RowKit
set_option linter.unusedVariables false
set_option linter.unusedSimpArgs false
set_option maxRecDepth 100000

theorem within_lit (b bo : Nat) (k ko : Ck) (w : World) (h : CkAt w b k) (ho : CkAt w bo ko) (x : Bool) (hx : withinB k.xs ko.xs = x) :
    Calls Try.prog 10 #[.pointer (some ⟨b, 0, none⟩), .pointer (some ⟨bo, 0, none⟩)] w fun r w' => r = .returned (.bool x) ∧ w = w' := by
  rw [← hx]; exact within_any b bo k ko w h ho

theorem withinB_refl {xs : List Int} (h : OkL xs) : withinB xs xs = true := (withinB_iff h).2 fun u => Int.le_refl _
theorem withinB_trans {xs ys zs : List Int} (hy : OkL ys) (hz : OkL zs) (a : withinB xs ys = true) (b : withinB ys zs = true) : withinB xs zs = true :=
  (withinB_iff hz).2 fun u => Int.le_trans ((withinB_iff hy).1 a u) ((withinB_iff hz).1 b u)
theorem trim_within {xs ys : List Int} (hx : OkL xs) (hy : OkL ys) : decide (trim xs = trim ys) = (withinB xs ys && withinB ys xs) := by
  rw [Bool.eq_iff_iff, decide_eq_true_iff, Bool.and_eq_true, withinB_iff hx, withinB_iff hy, trim_iff]
  exact ⟨fun h => ⟨fun u => Int.le_of_eq (h u), fun u => Int.le_of_eq (h u).symm⟩, fun h u => Int.le_antisymm (h.1 u) (h.2 u)⟩
theorem ne0_true {x : Int} (h : x ≠ 0) : (x != 0) = true := by simpa using h

theorem order_law (va vb vc : Value) (a b c : List Int) (w : World) (ha : Src w va a) (hb : Src w vb b) (hc : Src w vc c) :
    Calls Try.prog 3 #[va, vb, vc] w (RetB (.bool true) w) := by
  by_cases ea : ofE a = 0
  · by_cases eb : ofE b = 0
    · by_cases ec : ofE c = 0
      · have oa := ofE_okL ea
        have ob := ofE_okL eb
        have oc := ofE_okL ec
        have hxx := withinB_refl oa
        have htr := withinB_trans (xs := a) ob oc
        have htw := trim_within oa ob
        have la : (trim a).length ≤ 140737488351232 := Nat.le_trans (length_trim_le a) (Nat.le_trans oa.1 (by decide))
        have lb : (trim b).length ≤ 140737488351232 := Nat.le_trans (length_trim_le b) (Nat.le_trans ob.1 (by decide))
        cases hxy : withinB a b with
        | false =>
          have hd : decide (trim a = trim b) = false := by rw [htw, hxy]; rfl
          clear htw htr
          go_enter Try.func3, Try.ntmps3
          go_wp2_with fail
          refine (of_yes va a _ ha ea).mono ?_
          rintro r w1 ⟨b1, g1, rfl, K1, B1, _, _⟩
          have hb1 := hb.below (Nat.le_refl _) B1
          have hc1 := hc.below (Nat.le_refl _) B1
          go_wp2_with fail
          refine (of_yes vb b _ hb1 eb).mono ?_
          rintro r w2 ⟨b2, g2, rfl, K2, B2, _, _⟩
          have hc2 := hc1.below (Nat.le_refl _) B2
          go_wp2_with fail
          refine (of_yes vc c _ hc2 ec).mono ?_
          rintro r w3 ⟨b3, g3, rfl, K3, B3, _, _⟩
          have K1' := (K1.below B2).below B3
          have K2' := K2.below B3
          have BF := Lib.hid (below_trans (below_trans B1 B2 B1.size) B3 (Nat.le_trans B1.size B2.size))
          have S3 := Lib.hid (Nat.le_trans B1.size (Nat.le_trans B2.size B3.size))
          clear hb1 hc1 hc2 B1 B2 B3 K1 K2
          have Cxx := within_lit b1 b1 _ _ w3 K1' K1' _ hxx
          have Cxy := within_lit b1 b2 _ _ w3 K1' K2' _ hxy
          go_wp2_with fail
          refine Cxx.mono ?_
          rintro r w' ⟨rfl, rfl⟩
          go_wp2_with fail
          refine Cxy.mono ?_
          rintro r w' ⟨rfl, rfl⟩
          go_wp2_with fail
          refine Cxy.mono ?_
          rintro r w' ⟨rfl, rfl⟩
          clear Cxx Cxy
          go_wp2_with fail
          refine (list_any b1 _ _ K1').mono ?_
          rintro r w4 ⟨v1, rfl, ho1, B4⟩
          have K2'' := K2'.below B4
          have S1 : Src w4 v1 (trim a) := Src.of_owns ho1
          clear ho1
          go_wp2_with fail
          refine (list_any b2 _ _ K2'').mono ?_
          rintro r w5 ⟨v2, rfl, ho2, B5⟩
          have S1' := S1.below (Nat.le_refl _) B5
          have S2 : Src w5 v2 (trim b) := Src.of_owns ho2
          have BH := Lib.hid (below_trans (below_trans BF.out B4 S3.out) B5 (Nat.le_trans S3.out B4.size))
          have S5 := Lib.hid (Nat.le_trans S3.out (Nat.le_trans B4.size B5.size))
          clear ho2 B4 B5
          go_wp2_with fail
          refine (ints_any v1 v2 (trim a) (trim b) w5 S1' S2 la lb).mono ?_
          rintro r w6 ⟨rfl, n, hw6⟩
          rw [hd]
          have BI := Lib.hid (show Below w.heap.size w w6 by rw [hw6]; exact below_drewN BH.out n)
          clear hw6
          go_wp2_with fail
          refine (joins_any _).mono ?_
          rintro r w7 ⟨rfl, B7⟩
          have BG := Lib.hid (below_trans BI.out B7 BI.out.size)
          clear B7
          go_wp2_with fail
          go_ret
          exact ⟨rfl, BG.out⟩
        | true =>
          cases hyx : withinB b a with
          | false =>
            have hd : decide (trim a = trim b) = false := by rw [htw, hxy, hyx]; rfl
            cases hyz : withinB b c with
            | false =>
              clear htw htr
              go_enter Try.func3, Try.ntmps3
              go_wp2_with fail
              refine (of_yes va a _ ha ea).mono ?_
              rintro r w1 ⟨b1, g1, rfl, K1, B1, _, _⟩
              have hb1 := hb.below (Nat.le_refl _) B1
              have hc1 := hc.below (Nat.le_refl _) B1
              go_wp2_with fail
              refine (of_yes vb b _ hb1 eb).mono ?_
              rintro r w2 ⟨b2, g2, rfl, K2, B2, _, _⟩
              have hc2 := hc1.below (Nat.le_refl _) B2
              go_wp2_with fail
              refine (of_yes vc c _ hc2 ec).mono ?_
              rintro r w3 ⟨b3, g3, rfl, K3, B3, _, _⟩
              have K1' := (K1.below B2).below B3
              have K2' := K2.below B3
              have BF := Lib.hid (below_trans (below_trans B1 B2 B1.size) B3 (Nat.le_trans B1.size B2.size))
              have S3 := Lib.hid (Nat.le_trans B1.size (Nat.le_trans B2.size B3.size))
              clear hb1 hc1 hc2 B1 B2 B3 K1 K2
              have Cxx := within_lit b1 b1 _ _ w3 K1' K1' _ hxx
              have Cxy := within_lit b1 b2 _ _ w3 K1' K2' _ hxy
              have Cyx := within_lit b2 b1 _ _ w3 K2' K1' _ hyx
              have Cyz := within_lit b2 b3 _ _ w3 K2' K3 _ hyz
              go_wp2_with fail
              refine Cxx.mono ?_
              rintro r w' ⟨rfl, rfl⟩
              go_wp2_with fail
              refine Cxy.mono ?_
              rintro r w' ⟨rfl, rfl⟩
              go_wp2_with fail
              refine Cyz.mono ?_
              rintro r w' ⟨rfl, rfl⟩
              go_wp2_with fail
              refine Cxy.mono ?_
              rintro r w' ⟨rfl, rfl⟩
              go_wp2_with fail
              refine Cyx.mono ?_
              rintro r w' ⟨rfl, rfl⟩
              clear Cxx Cxy Cyx Cyz
              go_wp2_with fail
              refine (list_any b1 _ _ K1').mono ?_
              rintro r w4 ⟨v1, rfl, ho1, B4⟩
              have K2'' := K2'.below B4
              have S1 : Src w4 v1 (trim a) := Src.of_owns ho1
              clear ho1
              go_wp2_with fail
              refine (list_any b2 _ _ K2'').mono ?_
              rintro r w5 ⟨v2, rfl, ho2, B5⟩
              have S1' := S1.below (Nat.le_refl _) B5
              have S2 : Src w5 v2 (trim b) := Src.of_owns ho2
              have BH := Lib.hid (below_trans (below_trans BF.out B4 S3.out) B5 (Nat.le_trans S3.out B4.size))
              have S5 := Lib.hid (Nat.le_trans S3.out (Nat.le_trans B4.size B5.size))
              clear ho2 B4 B5
              go_wp2_with fail
              refine (ints_any v1 v2 (trim a) (trim b) w5 S1' S2 la lb).mono ?_
              rintro r w6 ⟨rfl, n, hw6⟩
              rw [hd]
              have BI := Lib.hid (show Below w.heap.size w w6 by rw [hw6]; exact below_drewN BH.out n)
              clear hw6
              go_wp2_with fail
              refine (joins_any _).mono ?_
              rintro r w7 ⟨rfl, B7⟩
              have BG := Lib.hid (below_trans BI.out B7 BI.out.size)
              clear B7
              go_wp2_with fail
              go_ret
              exact ⟨rfl, BG.out⟩
            | true =>
              have hxz := htr hxy hyz
              clear htw htr
              go_enter Try.func3, Try.ntmps3
              go_wp2_with fail
              refine (of_yes va a _ ha ea).mono ?_
              rintro r w1 ⟨b1, g1, rfl, K1, B1, _, _⟩
              have hb1 := hb.below (Nat.le_refl _) B1
              have hc1 := hc.below (Nat.le_refl _) B1
              go_wp2_with fail
              refine (of_yes vb b _ hb1 eb).mono ?_
              rintro r w2 ⟨b2, g2, rfl, K2, B2, _, _⟩
              have hc2 := hc1.below (Nat.le_refl _) B2
              go_wp2_with fail
              refine (of_yes vc c _ hc2 ec).mono ?_
              rintro r w3 ⟨b3, g3, rfl, K3, B3, _, _⟩
              have K1' := (K1.below B2).below B3
              have K2' := K2.below B3
              have BF := Lib.hid (below_trans (below_trans B1 B2 B1.size) B3 (Nat.le_trans B1.size B2.size))
              have S3 := Lib.hid (Nat.le_trans B1.size (Nat.le_trans B2.size B3.size))
              clear hb1 hc1 hc2 B1 B2 B3 K1 K2
              have Cxx := within_lit b1 b1 _ _ w3 K1' K1' _ hxx
              have Cxy := within_lit b1 b2 _ _ w3 K1' K2' _ hxy
              have Cyx := within_lit b2 b1 _ _ w3 K2' K1' _ hyx
              have Cyz := within_lit b2 b3 _ _ w3 K2' K3 _ hyz
              have Cxz := within_lit b1 b3 _ _ w3 K1' K3 _ hxz
              go_wp2_with fail
              refine Cxx.mono ?_
              rintro r w' ⟨rfl, rfl⟩
              go_wp2_with fail
              refine Cxy.mono ?_
              rintro r w' ⟨rfl, rfl⟩
              go_wp2_with fail
              refine Cyz.mono ?_
              rintro r w' ⟨rfl, rfl⟩
              go_wp2_with fail
              refine Cxz.mono ?_
              rintro r w' ⟨rfl, rfl⟩
              go_wp2_with fail
              refine Cxy.mono ?_
              rintro r w' ⟨rfl, rfl⟩
              go_wp2_with fail
              refine Cyx.mono ?_
              rintro r w' ⟨rfl, rfl⟩
              clear Cxx Cxy Cyx Cyz Cxz
              go_wp2_with fail
              refine (list_any b1 _ _ K1').mono ?_
              rintro r w4 ⟨v1, rfl, ho1, B4⟩
              have K2'' := K2'.below B4
              have S1 : Src w4 v1 (trim a) := Src.of_owns ho1
              clear ho1
              go_wp2_with fail
              refine (list_any b2 _ _ K2'').mono ?_
              rintro r w5 ⟨v2, rfl, ho2, B5⟩
              have S1' := S1.below (Nat.le_refl _) B5
              have S2 : Src w5 v2 (trim b) := Src.of_owns ho2
              have BH := Lib.hid (below_trans (below_trans BF.out B4 S3.out) B5 (Nat.le_trans S3.out B4.size))
              have S5 := Lib.hid (Nat.le_trans S3.out (Nat.le_trans B4.size B5.size))
              clear ho2 B4 B5
              go_wp2_with fail
              refine (ints_any v1 v2 (trim a) (trim b) w5 S1' S2 la lb).mono ?_
              rintro r w6 ⟨rfl, n, hw6⟩
              rw [hd]
              have BI := Lib.hid (show Below w.heap.size w w6 by rw [hw6]; exact below_drewN BH.out n)
              clear hw6
              go_wp2_with fail
              refine (joins_any _).mono ?_
              rintro r w7 ⟨rfl, B7⟩
              have BG := Lib.hid (below_trans BI.out B7 BI.out.size)
              clear B7
              go_wp2_with fail
              go_ret
              exact ⟨rfl, BG.out⟩
          | true =>
            have hd : decide (trim a = trim b) = true := by rw [htw, hxy, hyx]; rfl
            cases hyz : withinB b c with
            | false =>
              clear htw htr
              go_enter Try.func3, Try.ntmps3
              go_wp2_with fail
              refine (of_yes va a _ ha ea).mono ?_
              rintro r w1 ⟨b1, g1, rfl, K1, B1, _, _⟩
              have hb1 := hb.below (Nat.le_refl _) B1
              have hc1 := hc.below (Nat.le_refl _) B1
              go_wp2_with fail
              refine (of_yes vb b _ hb1 eb).mono ?_
              rintro r w2 ⟨b2, g2, rfl, K2, B2, _, _⟩
              have hc2 := hc1.below (Nat.le_refl _) B2
              go_wp2_with fail
              refine (of_yes vc c _ hc2 ec).mono ?_
              rintro r w3 ⟨b3, g3, rfl, K3, B3, _, _⟩
              have K1' := (K1.below B2).below B3
              have K2' := K2.below B3
              have BF := Lib.hid (below_trans (below_trans B1 B2 B1.size) B3 (Nat.le_trans B1.size B2.size))
              have S3 := Lib.hid (Nat.le_trans B1.size (Nat.le_trans B2.size B3.size))
              clear hb1 hc1 hc2 B1 B2 B3 K1 K2
              have Cxx := within_lit b1 b1 _ _ w3 K1' K1' _ hxx
              have Cxy := within_lit b1 b2 _ _ w3 K1' K2' _ hxy
              have Cyx := within_lit b2 b1 _ _ w3 K2' K1' _ hyx
              have Cyz := within_lit b2 b3 _ _ w3 K2' K3 _ hyz
              go_wp2_with fail
              refine Cxx.mono ?_
              rintro r w' ⟨rfl, rfl⟩
              go_wp2_with fail
              refine Cxy.mono ?_
              rintro r w' ⟨rfl, rfl⟩
              go_wp2_with fail
              refine Cyz.mono ?_
              rintro r w' ⟨rfl, rfl⟩
              go_wp2_with fail
              refine Cxy.mono ?_
              rintro r w' ⟨rfl, rfl⟩
              go_wp2_with fail
              refine Cyx.mono ?_
              rintro r w' ⟨rfl, rfl⟩
              clear Cxx Cxy Cyx Cyz
              go_wp2_with fail
              refine (list_any b1 _ _ K1').mono ?_
              rintro r w4 ⟨v1, rfl, ho1, B4⟩
              have K2'' := K2'.below B4
              have S1 : Src w4 v1 (trim a) := Src.of_owns ho1
              clear ho1
              go_wp2_with fail
              refine (list_any b2 _ _ K2'').mono ?_
              rintro r w5 ⟨v2, rfl, ho2, B5⟩
              have S1' := S1.below (Nat.le_refl _) B5
              have S2 : Src w5 v2 (trim b) := Src.of_owns ho2
              have BH := Lib.hid (below_trans (below_trans BF.out B4 S3.out) B5 (Nat.le_trans S3.out B4.size))
              have S5 := Lib.hid (Nat.le_trans S3.out (Nat.le_trans B4.size B5.size))
              clear ho2 B4 B5
              go_wp2_with fail
              refine (ints_any v1 v2 (trim a) (trim b) w5 S1' S2 la lb).mono ?_
              rintro r w6 ⟨rfl, n, hw6⟩
              rw [hd]
              have BI := Lib.hid (show Below w.heap.size w w6 by rw [hw6]; exact below_drewN BH.out n)
              clear hw6
              go_wp2_with fail
              refine (joins_any _).mono ?_
              rintro r w7 ⟨rfl, B7⟩
              have BG := Lib.hid (below_trans BI.out B7 BI.out.size)
              clear B7
              go_wp2_with fail
              go_ret
              exact ⟨rfl, BG.out⟩
            | true =>
              have hxz := htr hxy hyz
              clear htw htr
              go_enter Try.func3, Try.ntmps3
              go_wp2_with fail
              refine (of_yes va a _ ha ea).mono ?_
              rintro r w1 ⟨b1, g1, rfl, K1, B1, _, _⟩
              have hb1 := hb.below (Nat.le_refl _) B1
              have hc1 := hc.below (Nat.le_refl _) B1
              go_wp2_with fail
              refine (of_yes vb b _ hb1 eb).mono ?_
              rintro r w2 ⟨b2, g2, rfl, K2, B2, _, _⟩
              have hc2 := hc1.below (Nat.le_refl _) B2
              go_wp2_with fail
              refine (of_yes vc c _ hc2 ec).mono ?_
              rintro r w3 ⟨b3, g3, rfl, K3, B3, _, _⟩
              have K1' := (K1.below B2).below B3
              have K2' := K2.below B3
              have BF := Lib.hid (below_trans (below_trans B1 B2 B1.size) B3 (Nat.le_trans B1.size B2.size))
              have S3 := Lib.hid (Nat.le_trans B1.size (Nat.le_trans B2.size B3.size))
              clear hb1 hc1 hc2 B1 B2 B3 K1 K2
              have Cxx := within_lit b1 b1 _ _ w3 K1' K1' _ hxx
              have Cxy := within_lit b1 b2 _ _ w3 K1' K2' _ hxy
              have Cyx := within_lit b2 b1 _ _ w3 K2' K1' _ hyx
              have Cyz := within_lit b2 b3 _ _ w3 K2' K3 _ hyz
              have Cxz := within_lit b1 b3 _ _ w3 K1' K3 _ hxz
              go_wp2_with fail
              refine Cxx.mono ?_
              rintro r w' ⟨rfl, rfl⟩
              go_wp2_with fail
              refine Cxy.mono ?_
              rintro r w' ⟨rfl, rfl⟩
              go_wp2_with fail
              refine Cyz.mono ?_
              rintro r w' ⟨rfl, rfl⟩
              go_wp2_with fail
              refine Cxz.mono ?_
              rintro r w' ⟨rfl, rfl⟩
              go_wp2_with fail
              refine Cxy.mono ?_
              rintro r w' ⟨rfl, rfl⟩
              go_wp2_with fail
              refine Cyx.mono ?_
              rintro r w' ⟨rfl, rfl⟩
              clear Cxx Cxy Cyx Cyz Cxz
              go_wp2_with fail
              refine (list_any b1 _ _ K1').mono ?_
              rintro r w4 ⟨v1, rfl, ho1, B4⟩
              have K2'' := K2'.below B4
              have S1 : Src w4 v1 (trim a) := Src.of_owns ho1
              clear ho1
              go_wp2_with fail
              refine (list_any b2 _ _ K2'').mono ?_
              rintro r w5 ⟨v2, rfl, ho2, B5⟩
              have S1' := S1.below (Nat.le_refl _) B5
              have S2 : Src w5 v2 (trim b) := Src.of_owns ho2
              have BH := Lib.hid (below_trans (below_trans BF.out B4 S3.out) B5 (Nat.le_trans S3.out B4.size))
              have S5 := Lib.hid (Nat.le_trans S3.out (Nat.le_trans B4.size B5.size))
              clear ho2 B4 B5
              go_wp2_with fail
              refine (ints_any v1 v2 (trim a) (trim b) w5 S1' S2 la lb).mono ?_
              rintro r w6 ⟨rfl, n, hw6⟩
              rw [hd]
              have BI := Lib.hid (show Below w.heap.size w w6 by rw [hw6]; exact below_drewN BH.out n)
              clear hw6
              go_wp2_with fail
              refine (joins_any _).mono ?_
              rintro r w7 ⟨rfl, B7⟩
              have BG := Lib.hid (below_trans BI.out B7 BI.out.size)
              clear B7
              go_wp2_with fail
              go_ret
              exact ⟨rfl, BG.out⟩
      · have nc := ne0_true ec
        go_enter Try.func3, Try.ntmps3
        go_wp2_with fail
        refine (of_weak va a _ ha).mono ?_
        rintro r w1 ⟨p1, rfl, B1⟩
        have hb1 := hb.below (Nat.le_refl _) B1
        have hc1 := hc.below (Nat.le_refl _) B1
        go_wp2_with fail
        refine (of_weak vb b _ hb1).mono ?_
        rintro r w2 ⟨p2, rfl, B2⟩
        have hc2 := hc1.below (Nat.le_refl _) B2
        go_wp2_with fail
        refine (of_weak vc c _ hc2).mono ?_
        rintro r w3 ⟨p3, rfl, B3⟩
        have BF := Lib.hid (below_trans (below_trans B1 B2 B1.size) B3 (Nat.le_trans B1.size B2.size))
        have S3 := Lib.hid (Nat.le_trans B1.size (Nat.le_trans B2.size B3.size))
        clear hb1 hc1 hc2 B1 B2 B3
        go_wp2_with fail
        refine (joins_any _).mono ?_
        rintro r w4 ⟨rfl, B4⟩
        have BG := Lib.hid (below_trans BF.out B4 S3.out)
        clear B4
        go_wp2_with fail
        go_ret
        exact ⟨rfl, BG.out⟩
    · have nb := ne0_true eb
      go_enter Try.func3, Try.ntmps3
      go_wp2_with fail
      refine (of_weak va a _ ha).mono ?_
      rintro r w1 ⟨p1, rfl, B1⟩
      have hb1 := hb.below (Nat.le_refl _) B1
      have hc1 := hc.below (Nat.le_refl _) B1
      go_wp2_with fail
      refine (of_weak vb b _ hb1).mono ?_
      rintro r w2 ⟨p2, rfl, B2⟩
      have hc2 := hc1.below (Nat.le_refl _) B2
      go_wp2_with fail
      refine (of_weak vc c _ hc2).mono ?_
      rintro r w3 ⟨p3, rfl, B3⟩
      have BF := Lib.hid (below_trans (below_trans B1 B2 B1.size) B3 (Nat.le_trans B1.size B2.size))
      have S3 := Lib.hid (Nat.le_trans B1.size (Nat.le_trans B2.size B3.size))
      clear hb1 hc1 hc2 B1 B2 B3
      go_wp2_with fail
      refine (joins_any _).mono ?_
      rintro r w4 ⟨rfl, B4⟩
      have BG := Lib.hid (below_trans BF.out B4 S3.out)
      clear B4
      go_wp2_with fail
      go_ret
      exact ⟨rfl, BG.out⟩
  · have na := ne0_true ea
    go_enter Try.func3, Try.ntmps3
    go_wp2_with fail
    refine (of_weak va a _ ha).mono ?_
    rintro r w1 ⟨p1, rfl, B1⟩
    have hb1 := hb.below (Nat.le_refl _) B1
    have hc1 := hc.below (Nat.le_refl _) B1
    go_wp2_with fail
    refine (of_weak vb b _ hb1).mono ?_
    rintro r w2 ⟨p2, rfl, B2⟩
    have hc2 := hc1.below (Nat.le_refl _) B2
    go_wp2_with fail
    refine (of_weak vc c _ hc2).mono ?_
    rintro r w3 ⟨p3, rfl, B3⟩
    have BF := Lib.hid (below_trans (below_trans B1 B2 B1.size) B3 (Nat.le_trans B1.size B2.size))
    have S3 := Lib.hid (Nat.le_trans B1.size (Nat.le_trans B2.size B3.size))
    clear hb1 hc1 hc2 B1 B2 B3
    go_wp2_with fail
    refine (joins_any _).mono ?_
    rintro r w4 ⟨rfl, B4⟩
    have BG := Lib.hid (below_trans BF.out B4 S3.out)
    clear B4
    go_wp2_with fail
    go_ret
    exact ⟨rfl, BG.out⟩

end Go.Proofs.Ytgomeofifaejfaa

