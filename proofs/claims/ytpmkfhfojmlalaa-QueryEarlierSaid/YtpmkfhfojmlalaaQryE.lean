
/-
  Package query: Before.
-/
import Derived.Test.YtpmkfhfojmlalaaQryD
namespace Go.Proofs.Ytpmkfhfojmlalaa
open Go.RowKit
set_option linter.unusedVariables false
set_option linter.unusedSimpArgs false
set_option maxRecDepth 100000

/-- Whether one event was ahead of another one. -/
def beforeV (es : List Ev) (ss : List (Int × List Int)) (rs : List Rec) (a b : Int) : Bool × Int :=
  if placeB ss.length es.length a && placeB ss.length es.length b then
    if askedB es ss rs a.toNat && askedB es ss rs b.toNat then
      if (es.getD a.toNat default).g = (es.getD b.toNat default).g then (decide (a < b), 0)
      else (decide (clkE (ss.getD a.toNat (0, [])).1 ≤ (knownV es ss rs b (es.getD a.toNat default).g).1), (knownV es ss rs b (es.getD a.toNat default).g).2)
    else (false, 6)
  else (false, 1)

def BeforePost (es : List Ev) (ss : List (Int × List Int)) (rs : List Rec) (a b : Int) (w : World) (r : Ending) (w' : World) : Prop :=
  r = .returned (.tuple #[.bool (beforeV es ss rs a b).1, .int .i64 (beforeV es ss rs a b).2]) ∧ Below w.heap.size w w'

set_option maxHeartbeats 2000000 in
theorem before_any (ve vs vr : Value) (es : List Ev) (ss : List (Int × List Int)) (rs : List Rec) (a b : Int) (w : World) (h : LogOf w ve vs vr es ss rs) :
    Calls Try.prog 8 #[.agg #[ve, vs, vr], .int .i64 a, .int .i64 b] w (BeforePost es ss rs a b w) := by
  obtain ⟨ao, ca, rfl⟩ := h.evs.shape
  obtain ⟨bo, cb, rfl⟩ := h.sts.shape
  obtain ⟨co, cc, rfl⟩ := h.recs.shape
  obtain ⟨W, hW⟩ : ∃ W, w.alloc (.cells #[.slice ao es.length ca, .slice bo ss.length cb, .slice co rs.length cc] 26) = W := ⟨_, rfl⟩
  have hB : Below w.heap.size w W := by rw [← hW]; exact (Below.refl _ _).alloc (Nat.le_refl _) _
  have hL : W.heap[w.heap.size]? = some (Obj.cells #[.slice ao es.length ca, .slice bo ss.length cb, .slice co rs.length cc] 26 (0, 0)) := by rw [← hW]; exact heap_alloc_new w _
  obtain ⟨l0, l1, l2⟩ := load_log hL
  have HW := Lib.hid hW
  have LW := Lib.hid (h.below hB)
  have BW := Lib.hid hB
  have HL := Lib.hid hL
  clear hB hL h
  cases hp : placeB ss.length es.length a with
  | false =>
    have E := Lib.hid (show beforeV es ss rs a b = (false, 1) by unfold beforeV; rw [hp]; rfl)
    have HP := Lib.hid hp
    clear hp
    go_enter Try.func8, Try.ntmps8
    go_wp2_with fail
    try rw [HW.out]
    clear hW
    refine (place_any (.slice ao es.length ca) (.slice bo ss.length cb) (.slice co rs.length cc) ss.length es.length rs.length cb ca cc ao bo co a W).mono ?_
    rintro r w1 ⟨rfl, hB1⟩
    rw [HP.out]
    go_wp2_with fail
    go_ret2
    exact ⟨by rw [E.out]; rfl, below_trans BW.out hB1 BW.out.size⟩
  | true =>
    have HP := Lib.hid hp
    cases hq : placeB ss.length es.length b with
    | false =>
      have E := Lib.hid (show beforeV es ss rs a b = (false, 1) by unfold beforeV; rw [hp, hq]; rfl)
      have HQ := Lib.hid hq
      clear hp hq
      go_enter Try.func8, Try.ntmps8
      go_wp2_with fail
      try rw [HW.out]
      clear hW
      refine (place_any (.slice ao es.length ca) (.slice bo ss.length cb) (.slice co rs.length cc) ss.length es.length rs.length cb ca cc ao bo co a W).mono ?_
      rintro r w1 ⟨rfl, hB1⟩
      rw [HP.out]
      obtain ⟨m0, m1, m2⟩ := load_log ((hB1.block _ (lt_of_heap HL.out)).trans HL.out)
      have B1 := Lib.hid (below_trans BW.out hB1 BW.out.size)
      clear hB1 l0 l1 l2
      go_wp2_with fail
      refine (place_any (.slice ao es.length ca) (.slice bo ss.length cb) (.slice co rs.length cc) ss.length es.length rs.length cb ca cc ao bo co b w1).mono ?_
      rintro r w2 ⟨rfl, hB2⟩
      rw [HQ.out]
      clear m0 m1 m2
      go_wp2_with fail
      go_ret2
      exact ⟨by rw [E.out]; rfl, below_trans B1.out hB2 B1.out.size⟩
    | true =>
      have HQ := Lib.hid hq
      obtain ⟨hel, ha0, ha1⟩ := of_decide_eq_true hp
      obtain ⟨hel2, hb0, hb1⟩ := of_decide_eq_true hq
      obtain ⟨i, rfl⟩ := Int.eq_ofNat_of_zero_le ha0
      obtain ⟨k, rfl⟩ := Int.eq_ofNat_of_zero_le hb0
      have hi : i < es.length := by omega
      have hi2 : i < ss.length := by omega
      have hk : k < es.length := by omega
      have hk2 : k < ss.length := by omega
      obtain ⟨xa, hxa⟩ : ∃ x, askedB es ss rs i = x := ⟨_, rfl⟩
      obtain ⟨xb, hxb⟩ : ∃ x, askedB es ss rs k = x := ⟨_, rfl⟩
      have E := Lib.hid (show beforeV es ss rs i k = if xa && xb then (if (es.getD i default).g = (es.getD k default).g then (decide ((i : Int) < k), 0) else (decide (clkE (ss.getD i (0, [])).1 ≤ (knownV es ss rs k (es.getD i default).g).1), (knownV es ss rs k (es.getD i default).g).2)) else (false, 6) by
        unfold beforeV; rw [hp, hq]
        show (if askedB es ss rs i && askedB es ss rs k then _ else _) = _
        rw [hxa, hxb]; rfl)
      have XA := Lib.hid hxa
      have XB := Lib.hid hxb
      clear hel hel2 ha0 ha1 hb0 hb1 hp hq hxa hxb
      go_enter Try.func8, Try.ntmps8
      go_wp2_with fail
      try rw [HW.out]
      clear hW
      refine (place_any (.slice ao es.length ca) (.slice bo ss.length cb) (.slice co rs.length cc) ss.length es.length rs.length cb ca cc ao bo co i W).mono ?_
      rintro r w1 ⟨rfl, hB1⟩
      rw [HP.out]
      have h1 := (hB1.block _ (lt_of_heap HL.out)).trans HL.out
      obtain ⟨m0, m1, m2⟩ := load_log h1
      have H1 := Lib.hid h1
      have L1 := Lib.hid (LW.out.below hB1)
      have B1 := Lib.hid (below_trans BW.out hB1 BW.out.size)
      clear hB1 l0 l1 l2 h1
      go_wp2_with fail
      refine (place_any (.slice ao es.length ca) (.slice bo ss.length cb) (.slice co rs.length cc) ss.length es.length rs.length cb ca cc ao bo co k w1).mono ?_
      rintro r w2 ⟨rfl, hB2⟩
      rw [HQ.out]
      have h2 := (hB2.block _ (lt_of_heap H1.out)).trans H1.out
      obtain ⟨n0, n1, n2⟩ := load_log h2
      have H2 := Lib.hid h2
      have L2 := Lib.hid (L1.out.below hB2)
      have B2 := Lib.hid (below_trans B1.out hB2 B1.out.size)
      clear hB2 m0 m1 m2 h2
      go_wp2_with fail
      refine (asked_any _ _ _ es ss rs i w2 L2.out hi hi2).mono ?_
      rintro r w3 ⟨rfl, hB3⟩
      rw [XA.out]
      cases xa with
      | false =>
        have E2 := Lib.hid (show beforeV es ss rs i k = (false, 6) by rw [E.out]; rfl)
        clear E n0 n1 n2
        go_wp2_with fail
        go_ret2
        exact ⟨by rw [E2.out]; rfl, below_trans B2.out hB3 B2.out.size⟩
      | true =>
        have h3 := (hB3.block _ (lt_of_heap H2.out)).trans H2.out
        obtain ⟨m0, m1, m2⟩ := load_log h3
        have H3 := Lib.hid h3
        have L3 := Lib.hid (L2.out.below hB3)
        have B3 := Lib.hid (below_trans B2.out hB3 B2.out.size)
        clear hB3 n0 n1 n2 h3
        go_wp2_with fail
        refine (asked_any _ _ _ es ss rs k w3 L3.out hk hk2).mono ?_
        rintro r w4 ⟨rfl, hB4⟩
        rw [XB.out]
        cases xb with
        | false =>
          have E2 := Lib.hid (show beforeV es ss rs i k = (false, 6) by rw [E.out]; rfl)
          clear E m0 m1 m2
          go_wp2_with fail
          go_ret2
          exact ⟨by rw [E2.out]; rfl, below_trans B3.out hB4 B3.out.size⟩
        | true =>
          have h4 := (hB4.block _ (lt_of_heap H3.out)).trans H3.out
          obtain ⟨n0, n1, n2⟩ := load_log h4
          have H4 := Lib.hid h4
          have L4 := Lib.hid (L3.out.below hB4)
          have B4 := Lib.hid (below_trans B3.out hB4 B3.out.size)
          clear hB4 m0 m1 m2 h4
          obtain ⟨eb, eo, rfl, hei⟩ := L4.out.evs.at i hi
          obtain ⟨_, _, e, hek⟩ := L4.out.evs.at k hk
          cases e
          obtain ⟨sb, so, rfl, hst⟩ := L4.out.sts.at i hi2
          have q0 := hei.c1
          have q1 := hek.c1
          obtain ⟨hwf, s0, _⟩ := hst
          obtain ⟨⟨ep', cs⟩, hst⟩ : ∃ st, ss.getD i (0, []) = st := ⟨_, rfl⟩
          obtain ⟨ga, hga⟩ : ∃ g, (es.getD i default).g = g := ⟨_, rfl⟩
          obtain ⟨gb, hgb⟩ : ∃ g, (es.getD k default).g = g := ⟨_, rfl⟩
          rw [hst] at hwf s0 E
          rw [hga] at q0 E
          rw [hgb] at q1 E
          have WF := Lib.hid hwf
          have j1 : (i : Int) < es.length := by omega
          have j2 : (k : Int) < es.length := by omega
          have j3 : (i : Int) < ss.length := by omega
          clear hei hek hst hga hgb hwf
          by_cases hg : ga = gb
          · have hgt : (ga == gb) = true := by simpa using hg
            have E2 := Lib.hid (show beforeV es ss rs i k = (decide (i < k), 0) by rw [E.out]; simp [hg])
            clear E hg
            go_wp2_with fail
            go_quiet (fail)
            go_wp2_with fail
            go_ret2
            exact ⟨by rw [E2.out]; rfl, by first | exact below_drewN B4.out _ | exact B4.out.drew | exact B4.out⟩
          · have hgt : (ga == gb) = false := by simpa using hg
            have E2 := Lib.hid (show beforeV es ss rs i k = (decide (clkE ep' ≤ (knownV es ss rs k ga).1), (knownV es ss rs k ga).2) by rw [E.out]; simp [hg])
            clear E hg
            go_wp2_with fail
            go_quiet (fail)
            go_wp2_with fail
            have hBB := Below.refl w4.heap.size w4
            go_region_held3 (fun w' => w'.cell? ⟨w.heap.size, 0, none⟩ = some (.slice (some ⟨eb, eo, none⟩) es.length ca) ∧ w'.cell? ⟨w.heap.size, 1, none⟩ = some (.slice (some ⟨sb, so, none⟩) ss.length cb) ∧ w'.cell? ⟨w.heap.size, 2, none⟩ = some (.slice co rs.length cc) ∧ w'.cell? ⟨eb, eo + i * 8 + 1, none⟩ = some (.int .i64 ga))
              (go_keep)
              (first
                | (go_at_call 11; refine (known_any _ _ _ es ss rs k ga _ (L4.out.below (by first | exact below_drewN hBB _ | exact (below_drewN hBB _).drew | exact hBB.drew))).mono ?_; rintro r w5 ⟨rfl, hB5⟩; have hB6 : Below w4.heap.size w4 w5 := below_trans (by first | exact below_drewN hBB _ | exact (below_drewN hBB _).drew | exact hBB.drew) hB5 (by simp); have hl := load_log ((hB6.block _ (lt_of_heap H4.out)).trans H4.out); have g0 := hl.1; have g1 := hl.2.1; have g2 := hl.2.2; have g3 := (hB6.cell (p := ⟨eb, eo + i * 8 + 1, none⟩) (block_lt_of_cell q0)).trans q0; clear hl))
            have s0' := (hB6.cell (p := ⟨sb, so + i * 2, none⟩) (block_lt_of_cell s0)).trans s0
            have B6 := Lib.hid (below_trans B4.out hB6 B4.out.size)
            obtain ⟨⟨kn, ke⟩, hkn⟩ : ∃ p, knownV es ss rs k ga = p := ⟨_, rfl⟩
            rw [hkn] at E2 ⊢
            clear hkn hB5 hB6 n0 n1 n2 q0 q1 s0 hBB
            go_wp2_with fail
            refine (clock_any ep' _ WF.out.1 WF.out.2).mono ?_
            rintro r w6 ⟨rfl, rfl⟩
            go_wp2_with fail
            go_ret2
            exact ⟨by rw [E2.out]; rfl, B6.out⟩

end Go.Proofs.Ytpmkfhfojmlalaa

