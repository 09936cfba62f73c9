
/-
  staitheref22: Known, Before.
-/
import Derived.Test.YtpmkfhfojmlalaaQryF
namespace Go.Proofs.Ytpmkfhfojmlalaa
open Go.RowKit
set_option linter.unusedVariables false
set_option linter.unusedSimpArgs false
set_option maxRecDepth 100000

theorem placeB_false {n m : Nat} {i : Int} (h : placeB n m i = false) : ((n : Int) != (m : Int)) = true ∨ (n = m ∧ decide (i < 0) = true) ∨ (n = m ∧ decide (i < 0) = false ∧ decide ((m : Int) ≤ i) = true) := by
  have h := of_decide_eq_false h
  by_cases e : n = m
  · by_cases a : i < 0
    · exact .inr (.inl ⟨e, decide_eq_true a⟩)
    · refine .inr (.inr ⟨e, decide_eq_false a, decide_eq_true ?_⟩)
      have : ¬ (i < m) := fun hm => h ⟨e, by omega, hm⟩
      omega
  · exact .inl (by simp; omega)

set_option maxHeartbeats 2000000 in
theorem rknown_any (ve vs vr : Value) (es : List Ev) (ss : List (Int × List Int)) (rs : List Rec) (b g : Int) (w : World) (h : RLogOf w ve vs vr es ss rs) :
    Calls Try.prog 12 #[.agg #[ve, vs, vr], .int .i64 b, .int .i64 g] w (KnownPost es ss rs b g w) := by
  obtain ⟨ao, ca, rfl⟩ := h.evs.shape
  obtain ⟨bo, cb, rfl⟩ := h.sts.shape
  obtain ⟨co, cc, rfl⟩ := h.recs.shape
  obtain ⟨W, hW⟩ : ∃ W, w.alloc (.cells #[.slice ao es.length ca, .slice bo ss.length cb, .slice co rs.length cc] 37) = W := ⟨_, rfl⟩
  have hB : Below w.heap.size w W := by rw [← hW]; exact (Below.refl _ _).alloc (Nat.le_refl _) _
  have hL : W.heap[w.heap.size]? = some (Obj.cells #[.slice ao es.length ca, .slice bo ss.length cb, .slice co rs.length cc] 37 (0, 0)) := by rw [← hW]; exact heap_alloc_new w _
  obtain ⟨l0, l1, l2⟩ := load_rlog hL
  have HW := Lib.hid hW
  have LW := Lib.hid (h.below hB)
  have BW := Lib.hid hB
  have HL := Lib.hid hL
  clear hB hL h
  cases hp : placeB ss.length es.length b with
  | false =>
    have E := Lib.hid (knownV_out (rs := rs) (g := g) hp)
    rcases placeB_false hp with h1 | ⟨h1, h2⟩ | ⟨h1, h2, h3⟩
    · clear hp
      go_enter Try.func12, Try.ntmps12
      go_wp2_with fail
      go_ret2
      exact ⟨by rw [E.out]; rfl, BW.out⟩
    · have t1 : ((ss.length : Int) != (es.length : Int)) = false := by simp; omega
      clear hp h1
      go_enter Try.func12, Try.ntmps12
      go_wp2_with fail
      go_ret2
      exact ⟨by rw [E.out]; rfl, BW.out⟩
    · have t1 : ((ss.length : Int) != (es.length : Int)) = false := by simp; omega
      clear hp h1
      go_enter Try.func12, Try.ntmps12
      go_wp2_with fail
      go_ret2
      exact ⟨by rw [E.out]; rfl, BW.out⟩
  | true =>
    obtain ⟨hel, hb0, hb1⟩ := of_decide_eq_true hp
    obtain ⟨i, rfl⟩ := Int.eq_ofNat_of_zero_le hb0
    have hi : i < es.length := by omega
    have hi2 : i < ss.length := by omega
    have t1 : ((ss.length : Int) != (es.length : Int)) = false := by simp; omega
    have t2 : decide ((i : Int) < 0) = false := decide_eq_false (by omega)
    have t3 : decide ((es.length : Int) ≤ (i : Int)) = false := decide_eq_false (by omega)
    obtain ⟨as', has⟩ : ∃ a, askedB es ss rs i = a := ⟨_, rfl⟩
    have AS := Lib.hid has
    cases hk : recAt rs g with
    | none =>
      have hro : recOut rs g = (default, false) := by unfold recOut; rw [hk]
      have E := Lib.hid (show knownV es ss rs i g = (0, 6) by rw [knownV_in hp hro (show askedB es ss rs (Int.toNat i) = as' from has)]; rfl)
      have RI := Lib.hid (show recI rs g = -1 by unfold recI; rw [hk])
      clear hp hro has hel hb0 hb1 hk
      go_enter Try.func12, Try.ntmps12
      go_wp2_with fail
      try rw [HW.out]
      clear hW
      refine (rof_g _ _ _ rs g W LW.out.recs LW.out.lr ⟨_, _, _, rfl⟩ ⟨_, _, _, rfl⟩).mono ?_
      rintro r w1 ⟨rfl, hB1⟩
      rw [RI.out]
      clear l0 l1 l2
      go_wp2_with fail
      go_ret2
      exact ⟨by rw [E.out]; rfl, below_trans BW.out hB1 BW.out.size⟩
    | some k =>
      obtain ⟨hkl, _⟩ := recAt_lt hk
      obtain ⟨rr, hrr⟩ : ∃ r, rs.getD k default = r := ⟨_, rfl⟩
      have hro : recOut rs g = (rr, true) := by unfold recOut; rw [hk]; rw [← hrr]
      have E := Lib.hid (knownV_in hp hro (show askedB es ss rs (Int.toNat i) = as' from has))
      have RI := Lib.hid (show recI rs g = k by unfold recI; rw [hk])
      have HRR := Lib.hid hrr
      clear hp hro has hel hb0 hb1 hk hrr
      go_enter Try.func12, Try.ntmps12
      go_wp2_with fail
      try rw [HW.out]
      clear hW
      refine (rof_g _ _ _ rs g W LW.out.recs LW.out.lr ⟨_, _, _, rfl⟩ ⟨_, _, _, rfl⟩).mono ?_
      rintro r w1 ⟨rfl, hB1⟩
      rw [RI.out]
      have h1 := (hB1.block _ (lt_of_heap HL.out)).trans HL.out
      obtain ⟨m0, m1, m2⟩ := load_rlog h1
      have H1 := Lib.hid h1
      have L1 := Lib.hid (LW.out.below hB1)
      have B1 := Lib.hid (below_trans BW.out hB1 BW.out.size)
      clear hB1 l0 l1 l2 h1
      go_wp2_with fail
      refine (rasked_any _ _ _ es ss rs i w1 L1.out hi hi2).mono ?_
      rintro r w2 ⟨rfl, hB2⟩
      rw [AS.out]
      have h2 := (hB2.block _ (lt_of_heap H1.out)).trans H1.out
      obtain ⟨n0, n1, n2⟩ := load_rlog h2
      have H2 := Lib.hid h2
      have L2 := Lib.hid (L1.out.below hB2)
      have B2 := Lib.hid (below_trans B1.out hB2 B1.out.size)
      clear hB2 m0 m1 m2 h2
      cases as' with
      | false =>
        have E2 := Lib.hid (show knownV es ss rs i g = (0, 6) by rw [E.out]; rfl)
        clear E
        go_wp2_with fail
        go_ret2
        exact ⟨by rw [E2.out]; rfl, B2.out⟩
      | true =>
        obtain ⟨rb, ro, rfl, hrec⟩ := L2.out.recs.at k hkl
        rw [HRR.out] at hrec
        obtain ⟨c0, c1, c2, c3, c4, c5⟩ := hrec
        have i3 : (k : Int) < rs.length := by omega
        obtain ⟨rg, rt, rf, rgone, rti, rcu⟩ := rr
        dsimp only at c0 c1 c2 c3 c4 c5
        have E' := Lib.hid (show knownV es ss rs i g = if rgone && decide (rti < i) then (rcu, 0) else if (i : Int) ≤ rf then (0, 0) else (at0 (ss.getD i (0, [])).2 rt, 0) by rw [E.out]; rfl)
        have key : (rgone = true ∧ rti < i) ∨ rgone = false ∨ (rgone = true ∧ ¬ rti < i) := by
          cases rgone with
          | false => exact .inr (.inl rfl)
          | true => by_cases h : rti < i
                    · exact .inl ⟨rfl, h⟩
                    · exact .inr (.inr ⟨rfl, h⟩)
        rcases key with ⟨rfl, hti⟩ | rfl | ⟨rfl, hti⟩
        · have E2 := Lib.hid (show knownV es ss rs i g = (rcu, 0) by rw [E'.out]; simp [hti])
          have hti' : decide (rti < (i : Int)) = true := decide_eq_true hti
          clear E' hti
          obtain ⟨V, hV⟩ : ∃ V, w2.alloc (.cells #[.int .i64 rg, .int .i64 rt, .int .i64 rf, .bool true, .int .i64 rti, .int .i64 rcu] 70) = V := ⟨_, rfl⟩
          have BV : Below w2.heap.size w2 V := by rw [← hV]; exact (Below.refl _ _).alloc (Nat.le_refl _) _
          have hR : V.heap[w2.heap.size]? = some (Obj.cells #[.int .i64 rg, .int .i64 rt, .int .i64 rf, .bool true, .int .i64 rti, .int .i64 rcu] 70 (0, 0)) := by rw [← hV]; exact heap_alloc_new w2 _
          obtain ⟨r0, r1, r2, r3, r4, r5, _⟩ := six_cells hR
          have h3 := (BV.block _ (lt_of_heap H2.out)).trans H2.out
          obtain ⟨o0, o1, o2⟩ := load_rlog h3
          have HV := Lib.hid hV
          have L3 := Lib.hid (L2.out.below BV)
          have B3 := Lib.hid (below_trans B2.out BV B2.out.size)
          clear E BV hR h3 n0 n1
          go_wp2_with fail
          go_ret2
          exact ⟨by rw [E2.out]; rfl, B3.out⟩
        · have E3 := Lib.hid (show knownV es ss rs i g = if (i : Int) ≤ rf then (0, 0) else (at0 (ss.getD i (0, [])).2 rt, 0) by rw [E'.out]; rfl)
          clear E'
          obtain ⟨V, hV⟩ : ∃ V, w2.alloc (.cells #[.int .i64 rg, .int .i64 rt, .int .i64 rf, .bool false, .int .i64 rti, .int .i64 rcu] 70) = V := ⟨_, rfl⟩
          have BV : Below w2.heap.size w2 V := by rw [← hV]; exact (Below.refl _ _).alloc (Nat.le_refl _) _
          have hR : V.heap[w2.heap.size]? = some (Obj.cells #[.int .i64 rg, .int .i64 rt, .int .i64 rf, .bool false, .int .i64 rti, .int .i64 rcu] 70 (0, 0)) := by rw [← hV]; exact heap_alloc_new w2 _
          obtain ⟨r0, r1, r2, r3, r4, r5, _⟩ := six_cells hR
          have h3 := (BV.block _ (lt_of_heap H2.out)).trans H2.out
          obtain ⟨o0, o1, o2⟩ := load_rlog h3
          have HV := Lib.hid hV
          have L3 := Lib.hid (L2.out.below BV)
          have B3 := Lib.hid (below_trans B2.out BV B2.out.size)
          clear E BV hR h3 n0 n1
          by_cases hfr : (i : Int) ≤ rf
          · have E2 := Lib.hid (show knownV es ss rs i g = (0, 0) by rw [E3.out, if_pos hfr])
            have hf1 : decide ((i : Int) ≤ rf) = true := decide_eq_true hfr
            clear E3
            go_wp2_with fail
            try rw [HV.out]
            clear hV
            go_quiet (fail)
            go_wp2_with fail
            go_ret2
            exact ⟨by rw [E2.out]; rfl, by first | exact below_drewN B3.out _ | exact B3.out⟩
          · have E2 := Lib.hid (show knownV es ss rs i g = (at0 (ss.getD i (0, [])).2 rt, 0) by rw [E3.out, if_neg hfr])
            have hf1 : decide ((i : Int) ≤ rf) = false := decide_eq_false hfr
            obtain ⟨sb, so, rfl, hst⟩ := L3.out.sts.at i hi2
            obtain ⟨_, _, u, s2, hsrc⟩ := hst
            have i2 : (i : Int) < ss.length := by omega
            obtain ⟨cs, hst⟩ : ∃ cs, (ss.getD i (0, [])).2 = cs := ⟨_, rfl⟩
            rw [hst] at hsrc E2
            obtain ⟨au, cu, rfl⟩ := src_len hsrc
            have SRC := Lib.hid hsrc
            clear E3 hst hsrc
            by_cases ht0 : rt < 0
            · have E4 := Lib.hid (show knownV es ss rs i g = (0, 0) by rw [E2.out, at0_out (.inl ht0)])
              have hf2 : decide (rt < 0) = true := decide_eq_true ht0
              go_wp2_with fail
              try rw [HV.out]
              clear hV
              go_quiet (fail)
              go_wp2_with fail
              go_ret2
              exact ⟨by rw [E4.out]; rfl, by first | exact below_drewN B3.out _ | exact B3.out⟩
            · have hf2 : decide (rt < 0) = false := decide_eq_false ht0
              by_cases ht1 : (cs.length : Int) ≤ rt
              · have E4 := Lib.hid (show knownV es ss rs i g = (0, 0) by rw [E2.out, at0_out (.inr ht1)])
                have hf3 : decide ((cs.length : Int) ≤ rt) = true := decide_eq_true ht1
                go_wp2_with fail
                try rw [HV.out]
                clear hV
                go_quiet (fail)
                go_wp2_with fail
                go_ret2
                exact ⟨by rw [E4.out]; rfl, by first | exact below_drewN B3.out _ | exact B3.out⟩
              · have hf3 : decide ((cs.length : Int) ≤ rt) = false := decide_eq_false ht1
                obtain ⟨q, rfl⟩ := Int.eq_ofNat_of_zero_le (show 0 ≤ rt by omega)
                have hq : q < cs.length := by omega
                have hq' : (q : Int) < (cs.length : Int) := by omega
                obtain ⟨_, _, e, _, hcc⟩ := SRC.out
                cases e
                obtain ⟨gz, z, rfl, hcd⟩ := hcc (by omega)
                have q0 := hcd q hq
                have E4 := Lib.hid (show knownV es ss rs i g = (cs.getD q 0, 0) by rw [E2.out, at0_nat])
                obtain ⟨x, hx⟩ : ∃ x, cs.getD q 0 = x := ⟨_, rfl⟩
                rw [hx] at q0 E4
                clear hx hcc hcd
                go_wp2_with fail
                try rw [HV.out]
                clear hV
                go_quiet (fail)
                go_wp2_with fail
                go_quiet (fail)
                go_wp2_with fail
                go_ret2
                exact ⟨by rw [E4.out]; rfl, by first | exact below_drewN B3.out _ | exact below_drewN (below_drewN B3.out _) _ | exact B3.out⟩
        · have E3 := Lib.hid (show knownV es ss rs i g = if (i : Int) ≤ rf then (0, 0) else (at0 (ss.getD i (0, [])).2 rt, 0) by rw [E'.out]; simp [hti])
          have hti' : decide (rti < (i : Int)) = false := decide_eq_false hti
          clear E' hti
          obtain ⟨V, hV⟩ : ∃ V, w2.alloc (.cells #[.int .i64 rg, .int .i64 rt, .int .i64 rf, .bool true, .int .i64 rti, .int .i64 rcu] 70) = V := ⟨_, rfl⟩
          have BV : Below w2.heap.size w2 V := by rw [← hV]; exact (Below.refl _ _).alloc (Nat.le_refl _) _
          have hR : V.heap[w2.heap.size]? = some (Obj.cells #[.int .i64 rg, .int .i64 rt, .int .i64 rf, .bool true, .int .i64 rti, .int .i64 rcu] 70 (0, 0)) := by rw [← hV]; exact heap_alloc_new w2 _
          obtain ⟨r0, r1, r2, r3, r4, r5, _⟩ := six_cells hR
          have h3 := (BV.block _ (lt_of_heap H2.out)).trans H2.out
          obtain ⟨o0, o1, o2⟩ := load_rlog h3
          have HV := Lib.hid hV
          have L3 := Lib.hid (L2.out.below BV)
          have B3 := Lib.hid (below_trans B2.out BV B2.out.size)
          clear E BV hR h3 n0 n1
          by_cases hfr : (i : Int) ≤ rf
          · have E2 := Lib.hid (show knownV es ss rs i g = (0, 0) by rw [E3.out, if_pos hfr])
            have hf1 : decide ((i : Int) ≤ rf) = true := decide_eq_true hfr
            clear E3
            go_wp2_with fail
            try rw [HV.out]
            clear hV
            go_quiet (fail)
            go_wp2_with fail
            go_ret2
            exact ⟨by rw [E2.out]; rfl, by first | exact below_drewN B3.out _ | exact B3.out⟩
          · have E2 := Lib.hid (show knownV es ss rs i g = (at0 (ss.getD i (0, [])).2 rt, 0) by rw [E3.out, if_neg hfr])
            have hf1 : decide ((i : Int) ≤ rf) = false := decide_eq_false hfr
            obtain ⟨sb, so, rfl, hst⟩ := L3.out.sts.at i hi2
            obtain ⟨_, _, u, s2, hsrc⟩ := hst
            have i2 : (i : Int) < ss.length := by omega
            obtain ⟨cs, hst⟩ : ∃ cs, (ss.getD i (0, [])).2 = cs := ⟨_, rfl⟩
            rw [hst] at hsrc E2
            obtain ⟨au, cu, rfl⟩ := src_len hsrc
            have SRC := Lib.hid hsrc
            clear E3 hst hsrc
            by_cases ht0 : rt < 0
            · have E4 := Lib.hid (show knownV es ss rs i g = (0, 0) by rw [E2.out, at0_out (.inl ht0)])
              have hf2 : decide (rt < 0) = true := decide_eq_true ht0
              go_wp2_with fail
              try rw [HV.out]
              clear hV
              go_quiet (fail)
              go_wp2_with fail
              go_ret2
              exact ⟨by rw [E4.out]; rfl, by first | exact below_drewN B3.out _ | exact B3.out⟩
            · have hf2 : decide (rt < 0) = false := decide_eq_false ht0
              by_cases ht1 : (cs.length : Int) ≤ rt
              · have E4 := Lib.hid (show knownV es ss rs i g = (0, 0) by rw [E2.out, at0_out (.inr ht1)])
                have hf3 : decide ((cs.length : Int) ≤ rt) = true := decide_eq_true ht1
                go_wp2_with fail
                try rw [HV.out]
                clear hV
                go_quiet (fail)
                go_wp2_with fail
                go_ret2
                exact ⟨by rw [E4.out]; rfl, by first | exact below_drewN B3.out _ | exact B3.out⟩
              · have hf3 : decide ((cs.length : Int) ≤ rt) = false := decide_eq_false ht1
                obtain ⟨q, rfl⟩ := Int.eq_ofNat_of_zero_le (show 0 ≤ rt by omega)
                have hq : q < cs.length := by omega
                have hq' : (q : Int) < (cs.length : Int) := by omega
                obtain ⟨_, _, e, _, hcc⟩ := SRC.out
                cases e
                obtain ⟨gz, z, rfl, hcd⟩ := hcc (by omega)
                have q0 := hcd q hq
                have E4 := Lib.hid (show knownV es ss rs i g = (cs.getD q 0, 0) by rw [E2.out, at0_nat])
                obtain ⟨x, hx⟩ : ∃ x, cs.getD q 0 = x := ⟨_, rfl⟩
                rw [hx] at q0 E4
                clear hx hcc hcd
                go_wp2_with fail
                try rw [HV.out]
                clear hV
                go_quiet (fail)
                go_wp2_with fail
                go_quiet (fail)
                go_wp2_with fail
                go_ret2
                exact ⟨by rw [E4.out]; rfl, by first | exact below_drewN B3.out _ | exact below_drewN (below_drewN B3.out _) _ | exact B3.out⟩

end Go.Proofs.Ytpmkfhfojmlalaa

