
/-
  staitheref22: Of, Asked.
-/
import Derived.Test.YtpmkfhfojmlalaaQryE
namespace Go.Proofs.Ytpmkfhfojmlalaa
open Go.RowKit
set_option linter.unusedVariables false
set_option linter.unusedSimpArgs false
set_option maxRecDepth 100000

/-- A stamp of the reference: its tid, its clock, what was known. -/
def RStAt (w : World) (b o : Nat) (s : Int × List Int) : Prop := w.cell? ⟨b, o, none⟩ = some (.int .i64 (tidE s.1)) ∧ w.cell? ⟨b, o + 1, none⟩ = some (.int .i64 (clkE s.1)) ∧ ∃ u, w.cell? ⟨b, o + 2, none⟩ = some u ∧ Src w u s.2
theorem RStAt.below {w w' : World} {b o : Nat} {s : Int × List Int} (h : RStAt w b o s) {n : Nat} (hn : w.heap.size ≤ n) (hB : Below n w w') : RStAt w' b o s := by
  obtain ⟨h0, h1, u, h2, h3⟩ := h
  have hb : b < n := Nat.lt_of_lt_of_le (block_lt_of_cell h0) hn
  exact ⟨by rw [hB.cell (p := ⟨b, o, none⟩) hb]; exact h0, by rw [hB.cell (p := ⟨b, o + 1, none⟩) hb]; exact h1, u, by rw [hB.cell (p := ⟨b, o + 2, none⟩) hb]; exact h2, h3.below hn hB⟩
def RStsOf (w : World) (v : Value) (ss : List (Int × List Int)) : Prop :=
  ∃ ao cap, v = .slice ao ss.length cap ∧ (0 < ss.length → ∃ b o, ao = some ⟨b, o, none⟩ ∧ ∀ i, i < ss.length → RStAt w b (o + i * 3) (ss.getD i (0, [])))
theorem RStsOf.below {w w' : World} {v : Value} {rs : List (Int × List Int)} (h : RStsOf w v rs) {n : Nat} (hn : w.heap.size ≤ n) (hB : Below n w w') : RStsOf w' v rs := by
  obtain ⟨ao, cap, rfl, hc⟩ := h
  refine ⟨ao, cap, rfl, fun hp => ?_⟩
  obtain ⟨b, o, rfl, hd⟩ := hc hp
  exact ⟨b, o, rfl, fun i hi => (hd i hi).below hn hB⟩
theorem RStsOf.shape {w : World} {v : Value} {rs : List (Int × List Int)} (h : RStsOf w v rs) : ∃ ao cap, v = .slice ao rs.length cap := by
  obtain ⟨ao, cap, rfl, hc⟩ := h
  exact ⟨ao, cap, rfl⟩
theorem RStsOf.at {w : World} {ao : Option Addr} {n cap : Nat} {rs : List (Int × List Int)} (h : RStsOf w (.slice ao n cap) rs) (i : Nat) (hi : i < rs.length) : ∃ b o, ao = some ⟨b, o, none⟩ ∧ RStAt w b (o + i * 3) (rs.getD i (0, [])) := by
  obtain ⟨_, _, e, hc⟩ := h
  cases e
  obtain ⟨b, o, rfl, hd⟩ := hc (by omega)
  exact ⟨b, o, rfl, hd i hi⟩
theorem RecsOf.at {w : World} {ao : Option Addr} {n cap : Nat} {rs : List Rec} (h : RecsOf w (.slice ao n cap) rs) (i : Nat) (hi : i < rs.length) : ∃ b o, ao = some ⟨b, o, none⟩ ∧ RecAt w b (o + i * 6) (rs.getD i default) := by
  obtain ⟨_, _, e, hc⟩ := h
  cases e
  obtain ⟨b, o, rfl, hd⟩ := hc (by omega)
  exact ⟨b, o, rfl, hd i hi⟩

structure RLogOf (w : World) (ve vs vr : Value) (es : List Ev) (ss : List (Int × List Int)) (rs : List Rec) : Prop where
  evs : EvsOf w ve es
  sts : RStsOf w vs ss
  recs : RecsOf w vr rs
  le : es.length ≤ 500
  ls : ss.length ≤ 500
  lr : rs.length ≤ 500
theorem RLogOf.below {w w' : World} {ve vs vr : Value} {es : List Ev} {ss : List (Int × List Int)} {rs : List Rec} (h : RLogOf w ve vs vr es ss rs) (hB : Below w.heap.size w w') : RLogOf w' ve vs vr es ss rs :=
  ⟨h.evs.below (Nat.le_refl _) hB, h.sts.below (Nat.le_refl _) hB, h.recs.below (Nat.le_refl _) hB, h.le, h.ls, h.lr⟩
theorem load_rlog {w : World} {p : Nat} {ve vs vr : Value} (h : w.heap[p]? = some (Obj.cells #[ve, vs, vr] 37 (0, 0))) : w.cell? ⟨p, 0, none⟩ = some ve ∧ w.cell? ⟨p, 1, none⟩ = some vs ∧ w.cell? ⟨p, 2, none⟩ = some vr := by
  refine ⟨?_, ?_, ?_⟩ <;> (simp only [World.cell?, h]; rfl)

theorem rof_g (ve vs vr : Value) (rs : List Rec) (g : Int) (w : World) (h : RecsOf w vr rs) (hn : rs.length ≤ 500) (hs : ∃ a n c, ve = .slice a n c) (hs2 : ∃ a n c, vs = .slice a n c) :
    Calls Try.prog 14 #[.agg #[ve, vs, vr], .int .i64 g] w fun r w' => r = .returned (.int .i64 (recI rs g)) ∧ Below w.heap.size w w' := by
  obtain ⟨ao, cap, rfl, hc⟩ := h
  have HC := Lib.hid hc
  clear hc
  obtain ⟨a1, n1, c1, rfl⟩ := hs
  obtain ⟨a2, n2, c2, rfl⟩ := hs2
  obtain ⟨W, hW⟩ : ∃ W, w.alloc (.cells #[.slice a1 n1 c1, .slice a2 n2 c2, .slice ao rs.length cap] 37) = W := ⟨_, rfl⟩
  have hB : Below w.heap.size w W := by rw [← hW]; exact (Below.refl _ _).alloc (Nat.le_refl _) _
  have hL : W.heap[w.heap.size]? = some (Obj.cells #[.slice a1 n1 c1, .slice a2 n2 c2, .slice ao rs.length cap] 37 (0, 0)) := by rw [← hW]; exact heap_alloc_new w _
  obtain ⟨l0, l1, l2⟩ := load_rlog hL
  have BW := Lib.hid hB
  have HW := Lib.hid hW
  clear hB hL
  go_enter Try.func14, Try.ntmps14
  go_wp2_with fail
  try rw [HW.out]
  clear hW
  go_loopw [10] (fun i wr => ∃ k : Nat, k ≤ rs.length ∧ i = .int .i64 k ∧ (∀ j, j < k → (rs.getD j default).g ≠ g) ∧ Below w.heap.size w wr) (fun i _ => rs.length - (intOf i).toNat)
  case atStart => exact ⟨0, by omega, rfl, fun j hj => by omega, BW.out⟩
  case round =>
    obtain ⟨k, hk, rfl, hp, hB⟩ := hrel
    have P := Lib.hid hp
    have BB := Lib.hid hB
    clear hp
    by_cases hlt : k < rs.length
    · have hlt' : (k : Int) < rs.length := by omega
      obtain ⟨b, o, rfl, hcc⟩ := HC.out (by omega)
      obtain ⟨c0, c1, c2, c3, c4, c5⟩ := (hcc k hlt).below (Nat.le_refl _) hB
      obtain ⟨r, hr⟩ : ∃ r, rs.getD k default = r := ⟨_, rfl⟩
      rw [hr] at c0 c1 c2 c3 c4 c5
      have R := Lib.hid hr
      have B2 := Lib.hid (hB.alloc hB.size (.cells #[.int .i64 r.g, .int .i64 r.tid, .int .i64 r.frm, .bool r.gone, .int .i64 r.till, .int .i64 r.cut] 70))
      clear hcc hr hB
      by_cases hrg : r.g = g
      · have hq : (r.g == g) = true := by simpa using hrg
        have S := Lib.hid (show recI rs g = k by unfold recI; rw [recAt_some hlt (by rw [R.out]; exact hrg) P.out])
        clear hrg
        go_wp2_with fail
        go_ret
        exact ⟨by rw [S.out]; rfl, B2.out⟩
      · have hq : (r.g == g) = false := by simpa using hrg
        have S := Lib.hid (show ∀ j, j < k + 1 → (rs.getD j default).g ≠ g from fun j hj => by
          by_cases hjk : j = k
          · subst hjk; rw [R.out]; exact hrg
          · exact P.out j (by omega))
        clear hrg
        go_wp2_with fail
        go_roundw
        case rel => exact ⟨k + 1, by omega, by go_num, S.out, B2.out⟩
        case measure => simp [intOf] <;> omega
    · have hge : (rs.length : Int) ≤ k := by omega
      have S := Lib.hid (show recI rs g = -1 by unfold recI; rw [recAt_none (fun j hj => P.out j (by omega))])
      clear hlt hB
      go_wp2_with fail
      go_ret
      exact ⟨by rw [S.out]; rfl, BB.out⟩

theorem recI_there (rs : List Rec) (g : Int) : decide (0 ≤ recI rs g) = (recAt rs g).isSome := by
  unfold recI
  cases recAt rs g with
  | none => rfl
  | some k => exact decide_eq_true (Int.natCast_nonneg k)

set_option maxHeartbeats 8000000 in
theorem rasked_any (ve vs vr : Value) (es : List Ev) (ss : List (Int × List Int)) (rs : List Rec) (i : Nat) (w : World) (h : RLogOf w ve vs vr es ss rs) (hi : i < es.length) (hi2 : i < ss.length) :
    Calls Try.prog 19 #[.agg #[ve, vs, vr], .int .i64 i] w fun x w' => x = .returned (.bool (askedB es ss rs i)) ∧ Below w.heap.size w w' := by
  obtain ⟨ao, ca, rfl⟩ := h.evs.shape
  obtain ⟨bo, cb, rfl⟩ := h.sts.shape
  obtain ⟨co, cc, rfl⟩ := h.recs.shape
  obtain ⟨W, hW⟩ : ∃ W, w.alloc (.cells #[.slice ao es.length ca, .slice bo ss.length cb, .slice co rs.length cc] 37) = W := ⟨_, rfl⟩
  have hB : Below w.heap.size w W := by rw [← hW]; exact (Below.refl _ _).alloc (Nat.le_refl _) _
  have hL : W.heap[w.heap.size]? = some (Obj.cells #[.slice ao es.length ca, .slice bo ss.length cb, .slice co rs.length cc] 37 (0, 0)) := by rw [← hW]; exact heap_alloc_new w _
  obtain ⟨l0, l1, l2⟩ := load_rlog hL
  have HW := Lib.hid hW
  have LW := Lib.hid (h.below hB)
  have BW := Lib.hid hB
  have HL := Lib.hid hL
  obtain ⟨eb, eo, rfl, hev⟩ := LW.out.evs.at i hi
  obtain ⟨sb, so, rfl, hst⟩ := LW.out.sts.at i hi2
  have e0 := hev.c0
  have e1 := hev.c1
  obtain ⟨s0, _⟩ := hst
  have i1 : (i : Int) < es.length := by omega
  have i2 : (i : Int) < ss.length := by omega
  obtain ⟨ev, hev⟩ : ∃ ev, es.getD i default = ev := ⟨_, rfl⟩
  obtain ⟨st, hst⟩ : ∃ st, ss.getD i (0, []) = st := ⟨_, rfl⟩
  have EA := Lib.hid (show askedB es ss rs i = (ev.kind != 13 && decide (0 ≤ recI rs ev.g) && decide (0 ≤ tidE st.1)) by unfold askedB; rw [hev, hst, recI_there])
  rw [hev] at e0 e1
  rw [hst] at s0
  clear hev hst hB hL h
  have hBB := Below.refl W.heap.size W
  cases hk : (ev.kind != 13) with
  | false =>
    have E := Lib.hid (show askedB es ss rs i = false by rw [EA.out, hk]; rfl)
    clear EA
    go_enter Try.func19, Try.ntmps19
    go_wp2_with fail
    try rw [HW.out]
    clear hW
    go_quiet (fail)
    go_wp2_with fail
    go_ret
    exact ⟨by rw [E.out]; rfl, by first | exact below_drewN BW.out _ | exact BW.out⟩
  | true =>
    by_cases hr : 0 ≤ recI rs ev.g
    · have E := Lib.hid (show askedB es ss rs i = decide (0 ≤ tidE st.1) by rw [EA.out, hk, decide_eq_true hr]; rfl)
      obtain ⟨rI, hrI⟩ : ∃ x, recI rs ev.g = x := ⟨_, rfl⟩
      have RI := Lib.hid hrI
      rw [hrI] at hr
      have hr' : decide (0 ≤ rI) = true := decide_eq_true hr
      clear EA hrI hr
      go_enter Try.func19, Try.ntmps19
      go_wp2_with fail
      try rw [HW.out]
      clear hW
      go_region_held3 (fun w' => w'.cell? ⟨w.heap.size, 0, none⟩ = some (.slice (some ⟨eb, eo, none⟩) es.length ca) ∧ w'.cell? ⟨w.heap.size, 1, none⟩ = some (.slice (some ⟨sb, so, none⟩) ss.length cb) ∧ w'.cell? ⟨w.heap.size, 2, none⟩ = some (.slice co rs.length cc) ∧ w'.cell? ⟨eb, eo + i * 8, none⟩ = some (.int .i64 ev.kind) ∧ w'.cell? ⟨eb, eo + i * 8 + 1, none⟩ = some (.int .i64 ev.g) ∧ w'.cell? ⟨sb, so + i * 3, none⟩ = some (.int .i64 (tidE st.1)))
        (go_keep)
        (first
          | (go_at_call 14; refine (rof_g _ _ _ rs ev.g _ (LW.out.below (by first | exact hBB.drew | exact hBB)).recs LW.out.lr ⟨_, _, _, rfl⟩ ⟨_, _, _, rfl⟩).mono ?_; rintro r w5 ⟨rfl, hB5⟩; rw [RI.out]; have hB6 : Below W.heap.size W w5 := below_trans (by first | exact hBB.drew | exact hBB) hB5 (by simp); have hl := load_rlog ((hB6.block _ (lt_of_heap HL.out)).trans HL.out); have g0 := hl.1; have g1 := hl.2.1; have g2 := hl.2.2; have g3 := (hB6.cell (p := ⟨eb, eo + i * 8, none⟩) (block_lt_of_cell e0)).trans e0; have g4 := (hB6.cell (p := ⟨eb, eo + i * 8 + 1, none⟩) (block_lt_of_cell e1)).trans e1; have g5 := (hB6.cell (p := ⟨sb, so + i * 3, none⟩) (block_lt_of_cell s0)).trans s0; clear hl))
      all_goals go_wp2_with fail
      all_goals go_ret
      all_goals exact ⟨by rw [E.out]; rfl, below_trans BW.out hB6 BW.out.size⟩
    · have E := Lib.hid (show askedB es ss rs i = false by rw [EA.out, hk, decide_eq_false hr]; rfl)
      obtain ⟨rI, hrI⟩ : ∃ x, recI rs ev.g = x := ⟨_, rfl⟩
      have RI := Lib.hid hrI
      rw [hrI] at hr
      have hr' : decide (0 ≤ rI) = false := decide_eq_false hr
      clear EA hrI hr
      go_enter Try.func19, Try.ntmps19
      go_wp2_with fail
      try rw [HW.out]
      clear hW
      first | (go_region_with
        (first
          | (go_at_call 14; refine (rof_g _ _ _ rs ev.g _ (LW.out.below (by first | exact hBB.drew | exact hBB)).recs LW.out.lr ⟨_, _, _, rfl⟩ ⟨_, _, _, rfl⟩).mono ?_; rintro r w5 ⟨rfl, hB5⟩; rw [RI.out]; have hB6 : Below W.heap.size W w5 := below_trans (by first | exact hBB.drew | exact hBB) hB5 (by simp); have hl := load_rlog ((hB6.block _ (lt_of_heap HL.out)).trans HL.out); have g0 := hl.1; have g1 := hl.2.1; have g2 := hl.2.2; have g3 := (hB6.cell (p := ⟨eb, eo + i * 8, none⟩) (block_lt_of_cell e0)).trans e0; have g4 := (hB6.cell (p := ⟨eb, eo + i * 8 + 1, none⟩) (block_lt_of_cell e1)).trans e1; have g5 := (hB6.cell (p := ⟨sb, so + i * 3, none⟩) (block_lt_of_cell s0)).trans s0; clear hl))) | fail
      all_goals go_wp2_with fail
      all_goals go_ret
      all_goals exact ⟨by rw [E.out]; rfl, below_trans BW.out hB6 BW.out.size⟩

end Go.Proofs.Ytpmkfhfojmlalaa

