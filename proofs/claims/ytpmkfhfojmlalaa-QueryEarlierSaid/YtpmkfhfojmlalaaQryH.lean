
/-
  staitheref22: Before.
-/
import Derived.Test.YtpmkfhfojmlalaaQryG
namespace Go.Proofs.Ytpmkfhfojmlalaa
open Go.RowKit
set_option linter.unusedVariables false
set_option linter.unusedSimpArgs false
set_option maxRecDepth 100000

set_option maxHeartbeats 2000000 in
theorem rbefore_any (ve vs vr : Value) (es : List Ev) (ss : List (Int × List Int)) (rs : List Rec) (a b : Int) (w : World) (h : RLogOf w ve vs vr es ss rs) :
    Calls Try.prog 9 #[.agg #[ve, vs, vr], .int .i64 a, .int .i64 b] w (BeforePost es ss rs a b w) := by
  obtain ⟨ao, ca, rfl⟩ := h.evs.shape
  obtain ⟨bo, cb, rfl⟩ := h.sts.shape
  obtain ⟨co, cc, rfl⟩ := h.recs.shape
  obtain ⟨W, hW⟩ : ∃ W, w.alloc (.cells #[.slice ao es.length ca, .slice bo ss.length cb, .slice co rs.length cc] 37) = W := ⟨_, rfl⟩
  have hB : Below w.heap.size w W := by rw [← hW]; exact (Below.refl _ _).alloc (Nat.le_refl _) _
  have hL : W.heap[w.heap.size]? = some (Obj.cells #[.slice ao es.length ca, .slice bo ss.length cb, .slice co rs.length cc] 37 (0, 0)) := by rw [← hW]; exact heap_alloc_new w _
  obtain ⟨l0, l1, l2⟩ := load_rlog hL
  have HW := Lib.hid hW
  have LW := Lib.hid (h.below hB)
  have BW := Lib.hid hB
  have HL := Lib.hid hL
  clear hB hL h
  cases hp : placeB ss.length es.length a with
  | false =>
    have E := Lib.hid (show beforeV es ss rs a b = (false, 1) by unfold beforeV; rw [hp]; rfl)
    rcases placeB_false hp with h1 | ⟨h1, h2⟩ | ⟨h1, h2, h3⟩
    · clear hp
      go_enter Try.func9, Try.ntmps9
      go_wp2_with fail
      go_ret2
      exact ⟨by rw [E.out]; rfl, BW.out⟩
    · have t1 : ((ss.length : Int) != (es.length : Int)) = false := by simp; omega
      clear hp h1
      go_enter Try.func9, Try.ntmps9
      go_wp2_with fail
      go_ret2
      exact ⟨by rw [E.out]; rfl, BW.out⟩
    · have t1 : ((ss.length : Int) != (es.length : Int)) = false := by simp; omega
      clear hp h1
      go_enter Try.func9, Try.ntmps9
      go_wp2_with fail
      go_ret2
      exact ⟨by rw [E.out]; rfl, BW.out⟩
  | true =>
    obtain ⟨hel, ha0, ha1⟩ := of_decide_eq_true hp
    obtain ⟨i, rfl⟩ := Int.eq_ofNat_of_zero_le ha0
    have hi : i < es.length := by omega
    have hi2 : i < ss.length := by omega
    have t1 : ((ss.length : Int) != (es.length : Int)) = false := by simp; omega
    have t2 : decide ((i : Int) < 0) = false := decide_eq_false (by omega)
    have t3 : decide ((es.length : Int) ≤ (i : Int)) = false := decide_eq_false (by omega)
    cases hq : placeB ss.length es.length b with
    | false =>
      have E := Lib.hid (show beforeV es ss rs i b = (false, 1) by unfold beforeV; rw [hp, hq]; rfl)
      rcases placeB_false hq with h1 | ⟨_, h2⟩ | ⟨_, h2, h3⟩
      · rw [t1] at h1; cases h1
      · clear hp hq hel ha0 ha1
        rename_i hel2
        clear hel2
        go_enter Try.func9, Try.ntmps9
        go_wp2_with fail
        go_ret2
        exact ⟨by rw [E.out]; rfl, BW.out⟩
      · clear hp hq hel ha0 ha1
        rename_i hel2
        clear hel2
        go_enter Try.func9, Try.ntmps9
        go_wp2_with fail
        go_ret2
        exact ⟨by rw [E.out]; rfl, BW.out⟩
    | true =>
      obtain ⟨hel2, hb0, hb1⟩ := of_decide_eq_true hq
      obtain ⟨k, rfl⟩ := Int.eq_ofNat_of_zero_le hb0
      have hk : k < es.length := by omega
      have hk2 : k < ss.length := by omega
      have t4 : decide ((k : Int) < 0) = false := decide_eq_false (by omega)
      have t5 : decide ((es.length : Int) ≤ (k : Int)) = false := decide_eq_false (by omega)
      obtain ⟨xa, hxa⟩ : ∃ x, askedB es ss rs i = x := ⟨_, rfl⟩
      obtain ⟨xb, hxb⟩ : ∃ x, askedB es ss rs k = x := ⟨_, rfl⟩
      have E := Lib.hid (show beforeV es ss rs i k = if xa && xb then (if (es.getD i default).g = (es.getD k default).g then (decide ((i : Int) < k), 0) else (decide (clkE (ss.getD i (0, [])).1 ≤ (knownV es ss rs k (es.getD i default).g).1), (knownV es ss rs k (es.getD i default).g).2)) else (false, 6) by
        unfold beforeV; rw [hp, hq]
        show (if askedB es ss rs i && askedB es ss rs k then _ else _) = _
        rw [hxa, hxb]; rfl)
      have XA := Lib.hid hxa
      have XB := Lib.hid hxb
      clear hel hel2 ha0 ha1 hb0 hb1 hp hq hxa hxb
      go_enter Try.func9, Try.ntmps9
      go_wp2_with fail
      try rw [HW.out]
      clear hW
      refine (rasked_any _ _ _ es ss rs i W LW.out hi hi2).mono ?_
      rintro r w3 ⟨rfl, hB3⟩
      rw [XA.out]
      cases xa with
      | false =>
        have E2 := Lib.hid (show beforeV es ss rs i k = (false, 6) by rw [E.out]; rfl)
        clear E l0 l1 l2
        go_wp2_with fail
        go_ret2
        exact ⟨by rw [E2.out]; rfl, below_trans BW.out hB3 BW.out.size⟩
      | true =>
        have h3 := (hB3.block _ (lt_of_heap HL.out)).trans HL.out
        obtain ⟨m0, m1, m2⟩ := load_rlog h3
        have H3 := Lib.hid h3
        have L3 := Lib.hid (LW.out.below hB3)
        have B3 := Lib.hid (below_trans BW.out hB3 BW.out.size)
        clear hB3 l0 l1 l2 h3
        go_wp2_with fail
        refine (rasked_any _ _ _ es ss rs k w3 L3.out hk hk2).mono ?_
        rintro r w4 ⟨rfl, hB4⟩
        rw [XB.out]
        cases xb with
        | false =>
          have E2 := Lib.hid (show beforeV es ss rs i k = (false, 6) by rw [E.out]; rfl)
          clear E m0 m1 m2
          go_wp2_with fail
          go_ret2
          exact ⟨by rw [E2.out]; rfl, below_trans B3.out hB4 B3.out.size⟩
        | true =>
          have h4 := (hB4.block _ (lt_of_heap H3.out)).trans H3.out
          obtain ⟨n0, n1, n2⟩ := load_rlog h4
          have H4 := Lib.hid h4
          have L4 := Lib.hid (L3.out.below hB4)
          have B4 := Lib.hid (below_trans B3.out hB4 B3.out.size)
          clear hB4 m0 m1 m2 h4
          obtain ⟨eb, eo, rfl, hei⟩ := L4.out.evs.at i hi
          obtain ⟨_, _, e, hek⟩ := L4.out.evs.at k hk
          cases e
          obtain ⟨sb, so, rfl, hst⟩ := L4.out.sts.at i hi2
          have q0 := hei.c1
          have q1 := hek.c1
          obtain ⟨_, s1, _⟩ := hst
          obtain ⟨⟨ep', cs⟩, hst⟩ : ∃ st, ss.getD i (0, []) = st := ⟨_, rfl⟩
          obtain ⟨ga, hga⟩ : ∃ g, (es.getD i default).g = g := ⟨_, rfl⟩
          obtain ⟨gb, hgb⟩ : ∃ g, (es.getD k default).g = g := ⟨_, rfl⟩
          rw [hst] at s1 E
          rw [hga] at q0 E
          rw [hgb] at q1 E
          have j1 : (i : Int) < es.length := by omega
          have j2 : (k : Int) < es.length := by omega
          have j3 : (i : Int) < ss.length := by omega
          clear hei hek hst hga hgb
          by_cases hg : ga = gb
          · have hgt : (ga == gb) = true := by simpa using hg
            have E2 := Lib.hid (show beforeV es ss rs i k = (decide (i < k), 0) by rw [E.out]; simp [hg])
            clear E hg
            go_wp2_with fail
            go_quiet (fail)
            go_wp2_with fail
            go_ret2
            exact ⟨by rw [E2.out]; rfl, by first | exact below_drewN B4.out _ | exact B4.out.drew | exact B4.out⟩
          · have hgt : (ga == gb) = false := by simpa using hg
            have E2 := Lib.hid (show beforeV es ss rs i k = (decide (clkE ep' ≤ (knownV es ss rs k ga).1), (knownV es ss rs k ga).2) by rw [E.out]; simp [hg])
            clear E hg
            go_wp2_with fail
            go_quiet (fail)
            go_wp2_with fail
            have hBB := Below.refl w4.heap.size w4
            go_region_held3 (fun w' => w'.cell? ⟨w.heap.size, 0, none⟩ = some (.slice (some ⟨eb, eo, none⟩) es.length ca) ∧ w'.cell? ⟨w.heap.size, 1, none⟩ = some (.slice (some ⟨sb, so, none⟩) ss.length cb) ∧ w'.cell? ⟨w.heap.size, 2, none⟩ = some (.slice co rs.length cc) ∧ w'.cell? ⟨eb, eo + i * 8 + 1, none⟩ = some (.int .i64 ga))
              (go_keep)
              (first
                | (go_at_call 12; refine (rknown_any _ _ _ es ss rs k ga _ (L4.out.below (by first | exact below_drewN hBB _ | exact (below_drewN hBB _).drew | exact hBB.drew))).mono ?_; rintro r w5 ⟨rfl, hB5⟩; have hB6 : Below w4.heap.size w4 w5 := below_trans (by first | exact below_drewN hBB _ | exact (below_drewN hBB _).drew | exact hBB.drew) hB5 (by simp); have hl := load_rlog ((hB6.block _ (lt_of_heap H4.out)).trans H4.out); have g0 := hl.1; have g1 := hl.2.1; have g2 := hl.2.2; have g3 := (hB6.cell (p := ⟨eb, eo + i * 8 + 1, none⟩) (block_lt_of_cell q0)).trans q0; clear hl))
            have s1' := (hB6.cell (p := ⟨sb, so + i * 3 + 1, none⟩) (block_lt_of_cell s1)).trans s1
            have B6 := Lib.hid (below_trans B4.out hB6 B4.out.size)
            obtain ⟨⟨kn, ke⟩, hkn⟩ : ∃ p, knownV es ss rs k ga = p := ⟨_, rfl⟩
            rw [hkn] at E2 ⊢
            clear hkn hB5 hB6 n0 n1 n2 q0 q1 s1 hBB
            go_wp2_with fail
            go_ret2
            exact ⟨by rw [E2.out]; rfl, B6.out⟩

end Go.Proofs.Ytpmkfhfojmlalaa

