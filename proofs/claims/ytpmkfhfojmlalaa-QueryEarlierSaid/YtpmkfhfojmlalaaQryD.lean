
/-
  Package query: Known.
-/
import Derived.Test.YtpmkfhfojmlalaaQryC
namespace Go.Proofs.Ytpmkfhfojmlalaa
open Go.RowKit
set_option linter.unusedVariables false
set_option linter.unusedSimpArgs false
set_option maxRecDepth 100000

theorem src_len {w : World} {v : Value} {l : List Int} (h : Src w v l) : ∃ ao cap, v = .slice ao l.length cap := by
  obtain ⟨ao, cap, rfl, _⟩ := h
  exact ⟨ao, cap, rfl⟩

/-- Up to which clock a goroutine is known to an event. -/
def knownV (es : List Ev) (ss : List (Int × List Int)) (rs : List Rec) (b g : Int) : Int × Int :=
  if placeB ss.length es.length b then
    if (recOut rs g).2 && askedB es ss rs b.toNat then
      if (recOut rs g).1.gone && decide ((recOut rs g).1.till < b) then ((recOut rs g).1.cut, 0)
      else if b ≤ (recOut rs g).1.frm then (0, 0) else (at0 (ss.getD b.toNat (0, [])).2 (recOut rs g).1.tid, 0)
    else (0, 6)
  else (0, 1)

theorem knownV_out {es : List Ev} {ss : List (Int × List Int)} {rs : List Rec} {b g : Int} (h : placeB ss.length es.length b = false) : knownV es ss rs b g = (0, 1) := by
  unfold knownV; rw [h]; rfl
theorem knownV_in {es : List Ev} {ss : List (Int × List Int)} {rs : List Rec} {b g : Int} {rr : Rec} {th as' : Bool} (h : placeB ss.length es.length b = true) (hr : recOut rs g = (rr, th)) (ha : askedB es ss rs b.toNat = as') :
    knownV es ss rs b g = if th && as' then (if rr.gone && decide (rr.till < b) then (rr.cut, 0) else if b ≤ rr.frm then (0, 0) else (at0 (ss.getD b.toNat (0, [])).2 rr.tid, 0)) else (0, 6) := by
  unfold knownV; rw [h, hr, ha]; rfl

def KnownPost (es : List Ev) (ss : List (Int × List Int)) (rs : List Rec) (b g : Int) (w : World) (r : Ending) (w' : World) : Prop :=
  r = .returned (.tuple #[.int .i64 (knownV es ss rs b g).1, .int .i64 (knownV es ss rs b g).2]) ∧ Below w.heap.size w w'

set_option maxHeartbeats 1000000 in
theorem known_any (ve vs vr : Value) (es : List Ev) (ss : List (Int × List Int)) (rs : List Rec) (b g : Int) (w : World) (h : LogOf w ve vs vr es ss rs) :
    Calls Try.prog 11 #[.agg #[ve, vs, vr], .int .i64 b, .int .i64 g] w (KnownPost es ss rs b g w) := by
  obtain ⟨ao, ca, rfl⟩ := h.evs.shape
  obtain ⟨bo, cb, rfl⟩ := h.sts.shape
  obtain ⟨co, cc, rfl⟩ := h.recs.shape
  obtain ⟨W, hW⟩ : ∃ W, w.alloc (.cells #[.slice ao es.length ca, .slice bo ss.length cb, .slice co rs.length cc] 26) = W := ⟨_, rfl⟩
  have hB : Below w.heap.size w W := by rw [← hW]; exact (Below.refl _ _).alloc (Nat.le_refl _) _
  have hL : W.heap[w.heap.size]? = some (Obj.cells #[.slice ao es.length ca, .slice bo ss.length cb, .slice co rs.length cc] 26 (0, 0)) := by rw [← hW]; exact heap_alloc_new w _
  obtain ⟨l0, l1, l2⟩ := load_log hL
  have HW := Lib.hid hW
  have LW := Lib.hid (h.below hB)
  have BW := Lib.hid hB
  have HL := Lib.hid hL
  clear hB hL h
  cases hp : placeB ss.length es.length b with
  | false =>
    have E := Lib.hid (knownV_out (rs := rs) (g := g) hp)
    have HP := Lib.hid hp
    clear hp
    go_enter Try.func11, Try.ntmps11
    go_wp2_with fail
    try rw [HW.out]
    refine (place_any (.slice ao es.length ca) (.slice bo ss.length cb) (.slice co rs.length cc) ss.length es.length rs.length cb ca cc ao bo co b W).mono ?_
    rintro r w1 ⟨rfl, hB1⟩
    rw [HP.out]
    go_wp2_with fail
    go_ret2
    exact ⟨by rw [E.out]; rfl, below_trans BW.out hB1 BW.out.size⟩
  | true =>
    have HP := Lib.hid hp
    obtain ⟨hel, hb0, hb1⟩ := of_decide_eq_true hp
    obtain ⟨i, rfl⟩ := Int.eq_ofNat_of_zero_le hb0
    have hi : i < es.length := by omega
    have hi2 : i < ss.length := by omega
    clear hel hb0 hb1
    obtain ⟨⟨rr, th⟩, hro⟩ : ∃ p, recOut rs g = p := ⟨_, rfl⟩
    obtain ⟨as', has⟩ : ∃ a, askedB es ss rs i = a := ⟨_, rfl⟩
    have E := Lib.hid (knownV_in hp hro (show askedB es ss rs (Int.toNat i) = as' from has))
    have RO := Lib.hid hro
    have AS := Lib.hid has
    clear hp hro has
    cases th with
    | false =>
      have E2 := Lib.hid (show knownV es ss rs i g = (0, 6) by rw [E.out]; rfl)
      clear E
      go_enter Try.func11, Try.ntmps11
      go_wp2_with fail
      try rw [HW.out]
      clear hW
      refine (place_any (.slice ao es.length ca) (.slice bo ss.length cb) (.slice co rs.length cc) ss.length es.length rs.length cb ca cc ao bo co i W).mono ?_
      rintro r w1 ⟨rfl, hB1⟩
      rw [HP.out]
      obtain ⟨m0, m1, m2⟩ := load_log ((hB1.block _ (lt_of_heap HL.out)).trans HL.out)
      have L1 := Lib.hid (LW.out.below hB1)
      have B1 := Lib.hid (below_trans BW.out hB1 BW.out.size)
      clear hB1 l0 l1 l2
      go_wp2_with fail
      refine (record_by RO.out _ _ _ w1 L1.out.recs L1.out.lr).mono ?_
      rintro r w2 ⟨rfl, hB2⟩
      have B2 := Lib.hid (below_trans B1.out (hB2.alloc hB2.size (.cells #[.int .i64 rr.g, .int .i64 rr.tid, .int .i64 rr.frm, .bool rr.gone, .int .i64 rr.till, .int .i64 rr.cut] 45)) B1.out.size)
      clear hB2 m0 m1 m2
      go_wp2_with fail
      go_ret2
      exact ⟨by rw [E2.out]; rfl, B2.out⟩
    | true =>
      go_enter Try.func11, Try.ntmps11
      go_wp2_with fail
      try rw [HW.out]
      clear hW
      refine (place_any (.slice ao es.length ca) (.slice bo ss.length cb) (.slice co rs.length cc) ss.length es.length rs.length cb ca cc ao bo co i W).mono ?_
      rintro r w1 ⟨rfl, hB1⟩
      rw [HP.out]
      obtain ⟨m0, m1, m2⟩ := load_log ((hB1.block _ (lt_of_heap HL.out)).trans HL.out)
      have L1 := Lib.hid (LW.out.below hB1)
      have B1 := Lib.hid (below_trans BW.out hB1 BW.out.size)
      have H1 := Lib.hid ((hB1.block _ (lt_of_heap HL.out)).trans HL.out)
      clear hB1 l0 l1 l2
      go_wp2_with fail
      refine (record_by RO.out _ _ _ w1 L1.out.recs L1.out.lr).mono ?_
      rintro r w2 ⟨rfl, hB2⟩
      obtain ⟨V, hV⟩ : ∃ V, w2.alloc (.cells #[.int .i64 rr.g, .int .i64 rr.tid, .int .i64 rr.frm, .bool rr.gone, .int .i64 rr.till, .int .i64 rr.cut] 45) = V := ⟨_, rfl⟩
      have BV : Below w1.heap.size w1 V := by rw [← hV]; exact hB2.alloc hB2.size _
      have hR : V.heap[w2.heap.size]? = some (Obj.cells #[.int .i64 rr.g, .int .i64 rr.tid, .int .i64 rr.frm, .bool rr.gone, .int .i64 rr.till, .int .i64 rr.cut] 45 (0, 0)) := by rw [← hV]; exact heap_alloc_new w2 _
      obtain ⟨n0, n1, n2⟩ := load_log ((BV.block _ (lt_of_heap H1.out)).trans H1.out)
      have HV := Lib.hid hV
      have L2 := Lib.hid (L1.out.below BV)
      have B2 := Lib.hid (below_trans B1.out BV B1.out.size)
      have H2 := Lib.hid ((BV.block _ (lt_of_heap H1.out)).trans H1.out)
      have HR := Lib.hid hR
      clear hB2 m0 m1 m2 BV hR
      go_wp2_with fail
      try rw [HV.out]
      clear hV
      refine (asked_any _ _ _ es ss rs i V L2.out hi hi2).mono ?_
      rintro r w3 ⟨rfl, hB3⟩
      rw [AS.out]
      have B3 := Lib.hid (below_trans B2.out hB3 B2.out.size)
      cases as' with
      | false =>
        have E2 := Lib.hid (show knownV es ss rs i g = (0, 6) by rw [E.out]; rfl)
        clear E hB3 n0 n1 n2
        go_wp2_with fail
        go_ret2
        exact ⟨by rw [E2.out]; rfl, B3.out⟩
      | true =>
        obtain ⟨r0, r1, r2, r3, r4, r5, _⟩ := six_cells ((hB3.block _ (lt_of_heap HR.out)).trans HR.out)
        obtain ⟨o0, o1, o2⟩ := load_log ((hB3.block _ (lt_of_heap H2.out)).trans H2.out)
        have L3 := Lib.hid (L2.out.below hB3)
        have E' := Lib.hid (show knownV es ss rs i g = if rr.gone && decide (rr.till < i) then (rr.cut, 0) else if (i : Int) ≤ rr.frm then (0, 0) else (at0 (ss.getD i (0, [])).2 rr.tid, 0) by rw [E.out]; rfl)
        clear E hB3 n0 n1 n2
        by_cases hgo : rr.gone = true ∧ rr.till < i
        · obtain ⟨hg1, hg2⟩ := hgo
          have E2 := Lib.hid (show knownV es ss rs i g = (rr.cut, 0) by rw [E'.out, hg1, decide_eq_true hg2]; rfl)
          clear E'
          go_wp2_with fail
          go_ret2
          exact ⟨by rw [E2.out]; rfl, B3.out⟩
        · have hx : (rr.gone && decide (rr.till < i)) = false := by
            cases hg1 : rr.gone with
            | false => rfl
            | true => rw [decide_eq_false (fun h => hgo ⟨hg1, h⟩)]; rfl
          have E3 := Lib.hid (show knownV es ss rs i g = if (i : Int) ≤ rr.frm then (0, 0) else (at0 (ss.getD i (0, [])).2 rr.tid, 0) by rw [E'.out, hx]; rfl)
          clear E'
          by_cases hfr : (i : Int) ≤ rr.frm
          · have E2 := Lib.hid (show knownV es ss rs i g = (0, 0) by rw [E3.out, if_pos hfr])
            clear E3
            cases hg1 : rr.gone with
            | false =>
              rw [hg1] at r3
              clear hx hgo
              go_wp2_with fail
              go_ret2
              exact ⟨by rw [E2.out]; rfl, B3.out⟩
            | true =>
              rw [hg1] at r3
              have hg2 : ¬ rr.till < i := fun h => hgo ⟨hg1, h⟩
              clear hx hgo
              go_wp2_with fail
              go_ret2
              exact ⟨by rw [E2.out]; rfl, B3.out⟩
          · have E2 := Lib.hid (show knownV es ss rs i g = (at0 (ss.getD i (0, [])).2 rr.tid, 0) by rw [E3.out, if_neg hfr])
            clear E3
            obtain ⟨sb, so, rfl, hst⟩ := L3.out.sts.at i hi2
            obtain ⟨hwf, s0, u, s1, hsrc⟩ := hst
            obtain ⟨au, cu, rfl⟩ := src_len hsrc
            have SRC := Lib.hid hsrc
            have i2 : (i : Int) < ss.length := by omega
            obtain ⟨⟨ep', cs⟩, hst⟩ : ∃ st, ss.getD i (0, []) = st := ⟨_, rfl⟩
            rw [hst] at s0 s1 SRC E2
            clear hwf hsrc hst
            have hBB := Below.refl w3.heap.size w3
            cases hg1 : rr.gone with
            | false =>
              rw [hg1] at r3
              clear hx hgo
              go_wp2_with fail
              go_region_held3 (fun w' => w'.cell? ⟨w.heap.size, 1, none⟩ = some (.slice (some ⟨sb, so, none⟩) ss.length cb) ∧ w'.cell? ⟨sb, so + i * 2, none⟩ = some (.int .u64 ep') ∧ w'.cell? ⟨sb, so + i * 2 + 1, none⟩ = some (.slice au cs.length cu) ∧ w'.cell? ⟨w2.heap.size, 1, none⟩ = some (.int .i64 rr.tid))
                (go_keep)
                (first
                  | (go_at_call 22; refine (qat_any ep' _ cs rr.tid _ (SRC.out.below (Nat.le_refl _) (by first | exact hBB.drew | exact hBB))).mono ?_; rintro r w4 ⟨rfl, hB4⟩; have hB5 := below_trans hBB.drew hB4 (Nat.le_refl _); have k0 := (hB5.cell (p := ⟨w.heap.size, 1, none⟩) (block_lt_of_cell o1)).trans o1; have k1 := (hB5.cell (p := ⟨sb, so + i * 2, none⟩) (block_lt_of_cell s0)).trans s0; have k2 := (hB5.cell (p := ⟨sb, so + i * 2 + 1, none⟩) (block_lt_of_cell s1)).trans s1; have k3 := (hB5.cell (p := ⟨w2.heap.size, 1, none⟩) (block_lt_of_cell r1)).trans r1))
              go_wp2_with fail
              go_ret2
              exact ⟨by rw [E2.out]; rfl, below_trans B3.out hB5 B3.out.size⟩
            | true =>
              rw [hg1] at r3
              have hg2 : ¬ rr.till < i := fun h => hgo ⟨hg1, h⟩
              clear hx hgo
              go_wp2_with fail
              go_region_held3 (fun w' => w'.cell? ⟨w.heap.size, 1, none⟩ = some (.slice (some ⟨sb, so, none⟩) ss.length cb) ∧ w'.cell? ⟨sb, so + i * 2, none⟩ = some (.int .u64 ep') ∧ w'.cell? ⟨sb, so + i * 2 + 1, none⟩ = some (.slice au cs.length cu) ∧ w'.cell? ⟨w2.heap.size, 1, none⟩ = some (.int .i64 rr.tid))
                (go_keep)
                (first
                  | (go_at_call 22; refine (qat_any ep' _ cs rr.tid _ (SRC.out.below (Nat.le_refl _) (by first | exact hBB.drew | exact hBB))).mono ?_; rintro r w4 ⟨rfl, hB4⟩; have hB5 := below_trans hBB.drew hB4 (Nat.le_refl _); have k0 := (hB5.cell (p := ⟨w.heap.size, 1, none⟩) (block_lt_of_cell o1)).trans o1; have k1 := (hB5.cell (p := ⟨sb, so + i * 2, none⟩) (block_lt_of_cell s0)).trans s0; have k2 := (hB5.cell (p := ⟨sb, so + i * 2 + 1, none⟩) (block_lt_of_cell s1)).trans s1; have k3 := (hB5.cell (p := ⟨w2.heap.size, 1, none⟩) (block_lt_of_cell r1)).trans r1))
              go_wp2_with fail
              go_ret2
              exact ⟨by rw [E2.out]; rfl, below_trans B3.out hB5 B3.out.size⟩

end Go.Proofs.Ytpmkfhfojmlalaa

