
/-
  ReportNil.
-/
import Derived.Test.YtkcnbkdpjlpppaaRptH
namespace Go.Proofs.Ytkcnbkdpjlpppaa
open Go.RowKit
set_option linter.unusedVariables false
set_option linter.unusedSimpArgs false
set_option maxRecDepth 100000

set_option maxHeartbeats 400000 in
theorem nil_law (a b c : Int) (wr : Bool) (e tid : Int) (w : World) (h0 : 0 ≤ e) (h1 : e < 18446744073709551616) :
    Calls Try.prog 3 #[.agg #[.int .i64 a, .int .i64 b, .int .i64 c, .bool wr], .int .u64 e, .int .i64 tid] w (LawPost w) := by
  have U := Lib.hid (show U64 e from ⟨h0, h1⟩)
  have hm := u64_low e h0 h1
  obtain ⟨W, hW⟩ : ∃ W, w.alloc (.cells #[.int .i64 a, .int .i64 b, .int .i64 c, .bool wr] 23) = W := ⟨_, rfl⟩
  obtain ⟨b0, c0, c1, c2, c3⟩ := four_new hW
  have B0 := Lib.hid b0
  have HW := Lib.hid hW
  obtain ⟨q, hq⟩ : ∃ q, w.heap.size = q := ⟨_, rfl⟩
  rw [hq] at c0 c1 c2 c3
  have HQ := Lib.hid hq
  have READ := Lib.hid (ref_read_any e W h0 h1)
  obtain ⟨k, f, hk, hf, ways⟩ := nil_ways a b c wr e
  have PL := Lib.hid (plE e)
  rw [hk] at PL
  have PUT := Lib.hid (fun X => rput_none none ⟨a, b, c, wr⟩ e X U.out)
  rw [hf] at PUT
  obtain ⟨v, hv⟩ : ∃ v : Int, (if f = true then 7 else 1) = v := ⟨_, rfl⟩
  rw [hv] at PUT
  have HV := Lib.hid hv
  clear hv
  unfold accV at PUT
  dsimp only at PUT
  unfold rE at READ
  obtain ⟨a0, ha0⟩ : ∃ a, nE e = a := ⟨_, rfl⟩
  obtain ⟨a1, ha1⟩ : ∃ a, xE e = a := ⟨_, rfl⟩
  obtain ⟨a2, ha2⟩ : ∃ a, tid0 e = a := ⟨_, rfl⟩
  obtain ⟨a3, ha3⟩ : ∃ a, clk0 e = a := ⟨_, rfl⟩
  obtain ⟨rd, hrd⟩ : ∃ a, rdk e = a := ⟨_, rfl⟩
  rw [ha0, ha1, ha2, ha3, hrd] at READ
  rw [ha0, ha1, hrd] at PL
  have PLN := Lib.hid (fun X => ref_plain_val a0 a1 rd a2 a3 k PL.out X)
  obtain ⟨z, hz, zways⟩ := tid_ways tid
  have RET := Lib.hid (fun X => rret_nil tid 3 X)
  rw [hz] at RET
  clear hW b0 hq hk hf ha0 ha1 ha2 ha3 hrd hz
  go_enter Try.func3, Try.ntmps3
  go_upto_region 1 with fail
  rw [HW.out, HQ.out]
  go_wp2_with fail
  refine READ.out.mono ?_
  rintro r w1 ⟨rfl, hb1⟩
  have B1 := Lib.hid (below_trans B0.out hb1 B0.out.size)
  have d0 := (hb1.cell (p := ⟨q, 0, none⟩) (block_lt_of_cell c0)).trans c0
  have d1 := (hb1.cell (p := ⟨q, 1, none⟩) (block_lt_of_cell c1)).trans c1
  have d2 := (hb1.cell (p := ⟨q, 2, none⟩) (block_lt_of_cell c2)).trans c2
  have d3 := (hb1.cell (p := ⟨q, 3, none⟩) (block_lt_of_cell c3)).trans c3
  obtain ⟨W1, hW1⟩ : ∃ W1, w1.alloc (.cells #[.bool a0, .bool a1, .int .i64 a2, .int .i64 a3] 28) = W1 := ⟨_, rfl⟩
  obtain ⟨b1', x0, x1, x2, x3⟩ := four_new hW1
  have e0 := (b1'.cell (p := ⟨q, 0, none⟩) (block_lt_of_cell d0)).trans d0
  have e1 := (b1'.cell (p := ⟨q, 1, none⟩) (block_lt_of_cell d1)).trans d1
  have e2 := (b1'.cell (p := ⟨q, 2, none⟩) (block_lt_of_cell d2)).trans d2
  have e3 := (b1'.cell (p := ⟨q, 3, none⟩) (block_lt_of_cell d3)).trans d3
  obtain ⟨q1, hq1⟩ : ∃ q1, w1.heap.size = q1 := ⟨_, rfl⟩
  rw [hq1] at x0 x1 x2 x3
  have HQ1 := Lib.hid hq1
  have HW1 := Lib.hid hW1
  have B2 := Lib.hid (below_trans B1.out b1' B1.out.size)
  clear hb1 d0 d1 d2 d3 c0 c1 c2 c3 hW1 b1' hq1 hm h0 h1
  go_upto_region 3 with fail
  rw [HW1.out, HQ1.out]
  go_wp2_with fail
  refine (PUT.out W1).mono ?_
  rintro r w2 ⟨rfl, hb2⟩
  have B3 := Lib.hid (below_trans B2.out hb2 B2.out.size)
  have f0 := (hb2.cell (p := ⟨q, 0, none⟩) (block_lt_of_cell e0)).trans e0
  have f1 := (hb2.cell (p := ⟨q, 1, none⟩) (block_lt_of_cell e1)).trans e1
  have f2 := (hb2.cell (p := ⟨q, 2, none⟩) (block_lt_of_cell e2)).trans e2
  have f3 := (hb2.cell (p := ⟨q, 3, none⟩) (block_lt_of_cell e3)).trans e3
  have y0 := (hb2.cell (p := ⟨q1, 0, none⟩) (block_lt_of_cell x0)).trans x0
  have y1 := (hb2.cell (p := ⟨q1, 1, none⟩) (block_lt_of_cell x1)).trans x1
  have y2 := (hb2.cell (p := ⟨q1, 2, none⟩) (block_lt_of_cell x2)).trans x2
  have y3 := (hb2.cell (p := ⟨q1, 3, none⟩) (block_lt_of_cell x3)).trans x3
  clear hb2 e0 e1 e2 e3 x0 x1 x2 x3
  go_upto_region 4 with fail
  have ZW := Lib.hid zways
  have WY := Lib.hid ways
  clear zways ways
  go_cut [12] (fun s wx => s = .bool f ∧ Below w2.heap.size w2 wx)
  case first =>
    go_wp2_with fail
    refine (PLN.out w2).mono ?_
    rintro r w3 ⟨rfl, hb3⟩
    have B4 := Lib.hid hb3
    have e0 := (hb3.cell (p := ⟨q, 0, none⟩) (block_lt_of_cell f0)).trans f0
    have e1 := (hb3.cell (p := ⟨q, 1, none⟩) (block_lt_of_cell f1)).trans f1
    have e2 := (hb3.cell (p := ⟨q, 2, none⟩) (block_lt_of_cell f2)).trans f2
    have e3 := (hb3.cell (p := ⟨q, 3, none⟩) (block_lt_of_cell f3)).trans f3
    clear hb3 f0 f1 f2 f3 y0 y1 y2 y3
    rcases WY.out with ⟨rfl, rfl⟩ | ⟨rfl, rfl, g1⟩ | ⟨rfl, rfl, g1, g2⟩ | ⟨rfl, rfl, g1, g2, g3⟩ | ⟨rfl, rfl, g1, g2, g3, g4⟩ | ⟨rfl, rfl, g1, g2, g3, g4⟩
    all_goals
      go_wp2_with fail
      go_meet
      exact ⟨by simp [*], B4.out⟩
  case rest =>
    obtain ⟨rfl, hb3⟩ := hcut
    have B4 := Lib.hid (below_trans B3.out hb3 B3.out.size)
    clear hb3 f0 f1 f2 f3 y0 y1 y2 y3
    go_wp2_with fail
    refine (RET.out wc).mono ?_
    rintro r w4 ⟨rfl, hb4⟩
    have B5 := Lib.hid (below_trans B4.out hb4 B4.out.size)
    clear hb4
    obtain ⟨t, ht⟩ : ∃ t, decide (z = 7) = t := ⟨_, rfl⟩
    have HT := Lib.hid ht
    clear ht
    go_upto_region 6 with fail
    go_cut [14] (fun s wx => s = .bool t ∧ wx = w4)
    case first =>
      rcases ZW.out with ⟨rfl, t1⟩ | ⟨rfl, t1, t2⟩ | ⟨rfl, t1, t2⟩
      all_goals
        obtain rfl := HT.out
        go_wp2_with fail
        go_meet
        exact ⟨by simp [*], rfl⟩
    case rest =>
      obtain ⟨rfl, rfl⟩ := hcut
      go_wp2_with fail
      refine (rfirst_nil tid wc).mono ?_
      rintro r w5 ⟨rfl, hb5⟩
      have B6 := Lib.hid (below_trans B5.out hb5 B5.out.size)
      clear hb5
      unfold race0
      obtain ⟨W5, hW5⟩ : ∃ W5, w5.alloc (.cells #[.int .i64 0, .int .i64 0, .int .i64 0, .int .i64 0, .bool false] 38) = W5 := ⟨_, rfl⟩
      have B7 := Lib.hid (show Below w.heap.size w W5 from by rw [← hW5]; exact B6.out.alloc B6.out.size _)
      have HW5 := Lib.hid hW5
      clear hW5
      go_upto_region 8 with fail
      rw [HW5.out]
      have ZT : (z = 7 ∧ t = true) ∨ (z = 1 ∧ t = false) := by
        rcases ZW.out with ⟨rfl, _⟩ | ⟨rfl, _⟩ | ⟨rfl, _⟩
        · exact .inr ⟨rfl, HT.out.symm⟩
        · exact .inr ⟨rfl, HT.out.symm⟩
        · exact .inl ⟨rfl, HT.out.symm⟩
      clear HT ZW
      rcases ZT with ⟨rfl, rfl⟩ | ⟨rfl, rfl⟩
      all_goals
        cases f
        all_goals
          obtain rfl := HV.out
          simp only [Bool.false_eq_true, if_false, if_true]
          go_wp2_with fail
          refine (rraces_nil W5).mono ?_
          rintro r w6 ⟨rfl, hb6⟩
          have B8 := Lib.hid (below_trans B7.out hb6 B7.out.size)
          clear hb6
          go_wp2_with fail
          refine (rcell_nil tid w6).mono ?_
          rintro r w' ⟨rfl, rfl⟩
          go_wp2_with fail
          refine (two_any w6).mono ?_
          rintro r w7 ⟨rfl, hb7⟩
          have B9 := Lib.hid (below_trans B8.out hb7 B8.out.size)
          clear hb7
          go_wp2_with fail
          go_ret
          exact ⟨rfl, B9.out⟩
end Go.Proofs.Ytkcnbkdpjlpppaa

