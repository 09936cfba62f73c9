
/-
  staithelaw22: QueryEarlier.
-/
import Derived.Test.YtpmkfhfojmlalaaLaw22
namespace Go.Proofs.Ytpmkfhfojmlalaa
open Go.RowKit
set_option linter.unusedVariables false
set_option linter.unusedSimpArgs false
set_option maxRecDepth 100000

theorem earlier_plain {es : List Ev} {ss : List (Int × List Int)} {rs : List Rec} {b : Int} {k c : Nat} (hk : beforeV es ss rs k b = (true, 0)) (hck : c < k) (hg : (es.getD c default).g = (es.getD k default).g) (hcl : clkE (ss.getD c (0, [])).1 ≤ clkE (ss.getD k (0, [])).1) {x : Bool} (hc : beforeV es ss rs c b = (x, 0)) : x = true := by
  unfold beforeV at hk hc
  simp only [Int.toNat_natCast] at hk hc
  by_cases hp : (placeB ss.length es.length k && placeB ss.length es.length b) = true
  · rw [if_pos hp] at hk
    rw [Bool.and_eq_true] at hp
    have hpk := of_decide_eq_true hp.1
    have hpc : placeB ss.length es.length c = true := decide_eq_true ⟨hpk.1, by omega, by omega⟩
    rw [if_pos (by rw [hpc, hp.2]; rfl)] at hc
    by_cases ha : (askedB es ss rs k && askedB es ss rs b.toNat) = true
    · rw [if_pos ha] at hk
      by_cases hac : (askedB es ss rs c && askedB es ss rs b.toNat) = true
      · rw [if_pos hac] at hc
        simp only [hg] at hc
        by_cases hgg : (es.getD k default).g = (es.getD b.toNat default).g
        · rw [if_pos hgg] at hk hc
          have h1 := of_decide_eq_true (congrArg Prod.fst hk)
          have h2 : _ = x := congrArg Prod.fst hc
          subst h2
          exact decide_eq_true (by omega)
        · rw [if_neg hgg] at hk hc
          have h1 := of_decide_eq_true (congrArg Prod.fst hk)
          have h2 : _ = x := congrArg Prod.fst hc
          subst h2
          exact decide_eq_true (by omega)
      · rw [if_neg hac] at hc
        have := congrArg Prod.snd hc
        simp at this
    · rw [if_neg ha] at hk
      have := congrArg Prod.snd hk
      simp at this
  · rw [if_neg hp] at hk
    have := congrArg Prod.snd hk
    simp at this
theorem before_place {es : List Ev} {ss : List (Int × List Int)} {rs : List Rec} {b : Int} {k : Nat} (hk : beforeV es ss rs k b = (true, 0)) : ss.length = es.length := by
  unfold beforeV at hk
  by_cases hp : (placeB ss.length es.length k && placeB ss.length es.length b) = true
  · rw [Bool.and_eq_true] at hp
    exact (of_decide_eq_true hp.1).1
  · rw [if_neg hp] at hk
    have := congrArg Prod.snd hk
    simp at this
theorem ev_cells {w : World} {p : Nat} {t : TypeId} {e : Ev} (h : w.heap[p]? = some (Obj.cells #[.int .i64 e.kind, .int .i64 e.g, .int .i64 e.chan, .int .i64 e.kase, .int .i64 e.value, .int .i64 e.mate, .bool e.send, .bool e.ok] t (0, 0))) : w.cell? ⟨p, 1, none⟩ = some (.int .i64 e.g) := by simp only [World.cell?, h]; rfl

set_option maxHeartbeats 1000000 in
theorem earlier_law (ve vs vr : Value) (es : List Ev) (ss : List (Int × List Int)) (rs : List Rec) (b : Int) (w : World) (he : EvsOf w ve es) (hs : StsOf w vs ss) (hr : RecsOf w vr rs) (hcap : ∀ a n c, ve = .slice a n c → n ≤ c) :
    Calls Try.prog 5 #[.agg #[ve, vs, vr], .int .i64 b] w (RetB (.bool true) w) := by
  obtain ⟨ao, ca, rfl⟩ := he.shape
  have hcap := hcap _ _ _ rfl
  obtain ⟨bo, cb, rfl⟩ := hs.shape
  obtain ⟨co, cc, rfl⟩ := hr.shape
  obtain ⟨W, hW⟩ : ∃ W, w.alloc (.cells #[.slice ao es.length ca, .slice bo ss.length cb, .slice co rs.length cc] 26) = W := ⟨_, rfl⟩
  have hB : Below w.heap.size w W := by rw [← hW]; exact (Below.refl _ _).alloc (Nat.le_refl _) _
  have hL : W.heap[w.heap.size]? = some (Obj.cells #[.slice ao es.length ca, .slice bo ss.length cb, .slice co rs.length cc] 26 (0, 0)) := by rw [← hW]; exact heap_alloc_new w _
  obtain ⟨l0, l1, l2⟩ := load_log hL
  have HW := Lib.hid hW
  have BW := Lib.hid hB
  have HL := Lib.hid hL
  have HE := Lib.hid he
  have HS := Lib.hid hs
  have HR := Lib.hid hr
  clear he hs hr hB hL
  go_enter Try.func5, Try.ntmps5
  go_wp2_with fail
  try rw [HW.out]
  clear hW
  refine (qlarge_any es.length ss.length rs.length ca cb cc ao bo co W).mono ?_
  rintro r w1 ⟨rfl, hB1⟩
  have h1 := (hB1.block _ (lt_of_heap HL.out)).trans HL.out
  obtain ⟨m0, m1, m2⟩ := load_log h1
  have H1 := Lib.hid h1
  have B1 := Lib.hid (below_trans BW.out hB1 BW.out.size)
  clear l0 l1 l2 h1 hB1
  cases hq : qlargeB es.length ss.length rs.length with
  | true =>
    go_wp2_with fail
    refine (cut_any _).mono ?_
    rintro r w2 ⟨rfl, hB2⟩
    go_wp2_with fail
    go_ret
    exact ⟨rfl, below_trans B1.out hB2 B1.out.size⟩
  | false =>
    have hq' := of_decide_eq_false hq
    have LG := Lib.hid (show LogOf w1 (.slice ao es.length ca) (.slice bo ss.length cb) (.slice co rs.length cc) es ss rs from ⟨HE.out.below (Nat.le_refl _) B1.out, HS.out.below (Nat.le_refl _) B1.out, HR.out.below (Nat.le_refl _) B1.out, by omega, by omega, by omega⟩)
    clear hq'
    have hle5 := LG.out.le
    go_wp2_with fail
    go_loopw [19] (fun i wr => ∃ (k : Nat), k ≤ es.length ∧ i = .int .i64 k ∧ Below w1.heap.size w1 wr) (fun i _ => es.length - (intOf i).toNat)
    case atStart => exact ⟨0, by omega, rfl, Below.refl _ _⟩
    case round =>
      obtain ⟨k, hk, rfl, hBk⟩ := hrel
      by_cases hlt : k < es.length
      · have hlt' : (k : Int) < es.length := by omega
        obtain ⟨eb, eo, rfl, hev⟩ := (LG.out.below hBk).evs.at k hlt
        obtain ⟨c0, c1, c2, c3, c4, c5, c6, c7⟩ := hev
        obtain ⟨ev, hevk⟩ : ∃ ev, es.getD k default = ev := ⟨_, rfl⟩
        rw [hevk] at c0 c1 c2 c3 c4 c5 c6 c7
        have EVK := Lib.hid hevk
        obtain ⟨X, hX⟩ : ∃ X, wr.alloc (.cells #[.int .i64 ev.kind, .int .i64 ev.g, .int .i64 ev.chan, .int .i64 ev.kase, .int .i64 ev.value, .int .i64 ev.mate, .bool ev.send, .bool ev.ok] 50) = X := ⟨_, rfl⟩
        have BX0 : Below wr.heap.size wr X := by rw [← hX]; exact (Below.refl _ _).alloc (Nat.le_refl _) _
        have BX := below_trans hBk BX0 hBk.size
        have hgX : X.cell? ⟨wr.heap.size, 1, none⟩ = some (.int .i64 ev.g) := ev_cells (by rw [← hX]; exact heap_alloc_new wr _)
        have hX1 := (BX.block _ (lt_of_heap H1.out)).trans H1.out
        obtain ⟨x0, x1, x2⟩ := load_log hX1
        have HX1 := Lib.hid hX1
        have HXX := Lib.hid hX
        have LGX := Lib.hid (LG.out.below BX)
        have HBX := Lib.hid BX
        clear hevk BX0 BX hX1 hBk
        go_wp2_with fail
        try rw [HXX.out]
        clear hX c0 c1 c2 c3 c4 c5 c6 c7
        refine (before_any _ _ _ es ss rs k b X LGX.out).mono ?_
        rintro r w2 ⟨rfl, hB2⟩
        obtain ⟨⟨x, e⟩, hxe⟩ : ∃ p, beforeV es ss rs k b = p := ⟨_, rfl⟩
        rw [hxe]
        have B2' := Lib.hid (below_trans HBX.out hB2 HBX.out.size)
        by_cases hgo : x = true ∧ e = 0
        · obtain ⟨rfl, rfl⟩ := hgo
          have XE := Lib.hid hxe
          have hsl := before_place hxe
          have h2 := (hB2.block _ (lt_of_heap HX1.out)).trans HX1.out
          obtain ⟨y0, y1, y2⟩ := load_log h2
          have g2 := (hB2.cell (p := ⟨wr.heap.size, 1, none⟩) (block_lt_of_cell hgX)).trans hgX
          have HY1 := Lib.hid h2
          have LG2 := Lib.hid (LGX.out.below hB2)
          have k1 : (k : Int) ≤ (es.length : Int) := by omega
          have k2 : (k : Int) ≤ (ca : Int) := by omega
          have d1 : decide ((ss.length : Int) ≤ (k : Int)) = false := decide_eq_false (by omega)
          have HSL := Lib.hid hsl
          have k3 : (k : Int) < (ss.length : Int) := by omega
          clear hB2 hxe hgX x0 x1 x2 h2 hsl
          go_wp2_with fail
          go_loopw [42] (fun i w9 => ∃ (c : Nat), c ≤ k ∧ i = .int .i64 c ∧ Below w2.heap.size w2 w9) (fun i _ => k - (intOf i).toNat)
          case atStart => exact ⟨0, by omega, rfl, Below.refl _ _⟩
          case round =>
            obtain ⟨c, hc, rfl, hB9⟩ := hrel
            by_cases hlt2 : c < k
            · have hlt2' : (c : Int) < k := by omega
              obtain ⟨_, _, e', hev2⟩ := (LG2.out.below hB9).evs.at c (by omega)
              cases e'
              obtain ⟨c0, c1, c2, c3, c4, c5, c6, c7⟩ := hev2
              obtain ⟨ew, hew⟩ : ∃ ev, es.getD c default = ev := ⟨_, rfl⟩
              rw [hew] at c0 c1 c2 c3 c4 c5 c6 c7
              have EWC := Lib.hid hew
              obtain ⟨Y, hY⟩ : ∃ Y, wr.alloc (.cells #[.int .i64 ew.kind, .int .i64 ew.g, .int .i64 ew.chan, .int .i64 ew.kase, .int .i64 ew.value, .int .i64 ew.mate, .bool ew.send, .bool ew.ok] 50) = Y := ⟨_, rfl⟩
              have BY0 : Below wr.heap.size wr Y := by rw [← hY]; exact (Below.refl _ _).alloc (Nat.le_refl _) _
              have BY := below_trans hB9 BY0 hB9.size
              have hgY : Y.cell? ⟨wr.heap.size, 1, none⟩ = some (.int .i64 ew.g) := ev_cells (by rw [← hY]; exact heap_alloc_new wr _)
              have gx := (BY.cell (block_lt_of_cell g2)).trans g2
              obtain ⟨z0, z1, z2⟩ := load_log ((BY.block _ (lt_of_heap HY1.out)).trans HY1.out)
              have HYY := Lib.hid hY
              have LGY := Lib.hid (LG2.out.below BY)
              have HBY := Lib.hid BY
              have BB9 := Lib.hid hB9
              have m1 : (c : Int) < (ss.length : Int) := by have := HSL.out; omega
              have m2 : decide ((ss.length : Int) ≤ (c : Int)) = false := decide_eq_false (by omega)
              have m3 : decide (ss.length ≤ c) = false := decide_eq_false (by omega)
              have m4 : decide (ss.length ≤ k) = false := decide_eq_false (by omega)
              obtain ⟨sb, so, rfl, hs1⟩ := LGY.out.sts.at c (by have := HSL.out; omega)
              obtain ⟨_, _, e2, hs2⟩ := LGY.out.sts.at k (by have := HSL.out; omega)
              cases e2
              obtain ⟨wf1, v1, _⟩ := hs1
              obtain ⟨wf2, v2, _⟩ := hs2
              have WF1 := Lib.hid wf1
              have WF2 := Lib.hid wf2
              have PL := Lib.hid (fun hg hcl x hx => earlier_plain XE.out hlt2 hg hcl (x := x) hx)
              obtain ⟨⟨ec, cs1⟩, hec⟩ : ∃ p, ss.getD c (0, []) = p := ⟨_, rfl⟩
              obtain ⟨⟨ek, cs2⟩, hek⟩ : ∃ p, ss.getD k (0, []) = p := ⟨_, rfl⟩
              rw [hec] at v1 WF1 PL
              rw [hek] at v2 WF2 PL
              rw [EWC.out, EVK.out] at PL
              dsimp only at v1 v2
              clear wf1 wf2 BY0 BY hew hB9 hec hek
              by_cases hgg : ew.g = ev.g
              · have hgt : (ew.g != ev.g) = false := by simpa using hgg
                by_cases hcl : clkE ec ≤ clkE ek
                · have hct : decide (clkE ek < clkE ec) = false := decide_eq_false (by omega)
                  have PP := Lib.hid (fun x hx => PL.out hgg hcl x hx)
                  clear hgg hcl PL
                  go_wp2_with fail
                  try rw [HYY.out]
                  clear hY c0 c1 c2 c3 c4 c5 c6 c7
                  go_quiet ((go_at_call 15; (first | refine quiet_left (clock_any _ _ ?_ ?_) | refine quiet_add_left (clock_any _ _ ?_ ?_)); all_goals (first | exact WF1.out.1 | exact WF1.out.2 | exact WF2.out.1 | exact WF2.out.2)))
                  go_wp2_with fail
                  refine (before_any _ _ _ es ss rs c b _ (LGY.out.below (below_drewN (Below.refl _ _) _))).mono ?_
                  rintro r w8 ⟨rfl, hB8⟩
                  have B8 := Lib.hid (below_trans (below_drewN HBY.out _) hB8 HBY.out.size)
                  obtain ⟨⟨x', e'⟩, hxe'⟩ : ∃ p, beforeV es ss rs c b = p := ⟨_, rfl⟩
                  rw [hxe']
                  by_cases he0 : e' = 0
                  · subst he0
                    have hx' := PP.out x' hxe'
                    subst hx'
                    clear hxe' hB8 z0 z1 z2 gx hgY
                    go_wp2_with fail
                    first
                      | exact ⟨⟨c + 1, by omega, by go_num, B8.out⟩, by simp [intOf] <;> omega⟩
                      | (go_roundw
                         case rel => exact ⟨c + 1, by omega, by go_num, B8.out⟩
                         case measure => simp [intOf] <;> omega)
                  · have he1 : (e' == 0) = false := by simpa using he0
                    clear hxe' hB8 z0 z1 z2 gx hgY he0
                    go_wp2_with fail
                    first
                      | exact ⟨⟨c + 1, by omega, by go_num, B8.out⟩, by simp [intOf] <;> omega⟩
                      | (go_roundw
                         case rel => exact ⟨c + 1, by omega, by go_num, B8.out⟩
                         case measure => simp [intOf] <;> omega)
                · have hct : decide (clkE ek < clkE ec) = true := decide_eq_true (by omega)
                  clear hgg hcl PL
                  go_wp2_with fail
                  try rw [HYY.out]
                  clear hY c0 c1 c2 c3 c4 c5 c6 c7
                  go_quiet ((go_at_call 15; (first | refine quiet_left (clock_any _ _ ?_ ?_) | refine quiet_add_left (clock_any _ _ ?_ ?_)); all_goals (first | exact WF1.out.1 | exact WF1.out.2 | exact WF2.out.1 | exact WF2.out.2)))
                  go_wp2_with fail
                  first
                    | exact ⟨⟨c + 1, by omega, by go_num, below_drewN HBY.out _⟩, by simp [intOf] <;> omega⟩
                    | (go_roundw
                       case rel => exact ⟨c + 1, by omega, by go_num, below_drewN HBY.out _⟩
                       case measure => simp [intOf] <;> omega)
              · have hgt : (ew.g != ev.g) = true := by simpa using hgg
                go_wp2_with fail
                try rw [HYY.out]
                clear hY c0 c1 c2 c3 c4 c5 c6 c7
                go_quiet (fail)
                go_wp2_with fail
                first
                  | exact ⟨⟨c + 1, by omega, by go_num, below_drewN HBY.out _⟩, by simp [intOf] <;> omega⟩
                  | (go_roundw
                     case rel => exact ⟨c + 1, by omega, by go_num, below_drewN HBY.out _⟩
                     case measure => simp [intOf] <;> omega)
            · have hge2 : (k : Int) ≤ c := by omega
              have B9 := Lib.hid (below_trans B2'.out hB9 B2'.out.size)
              clear hlt2 hB9
              go_wp2_with fail
              first
                | exact ⟨⟨k + 1, by omega, by go_num, B9.out⟩, by simp [intOf] <;> omega⟩
                | (go_roundw
                   case rel => exact ⟨k + 1, by omega, by go_num, B9.out⟩
                   case measure => simp [intOf] <;> omega)
        · have B2x := Lib.hid B2'.out
          clear x0 x1 x2 hgX hxe hB2
          by_cases he0 : e = 0
          · subst he0
            have hx0 : x = false := by
              cases x with
              | false => rfl
              | true => exact absurd ⟨rfl, rfl⟩ hgo
            subst hx0
            clear hgo
            go_wp2_with fail
            first
              | exact ⟨⟨k + 1, by omega, by go_num, B2x.out⟩, by simp [intOf] <;> omega⟩
              | (go_roundw
                 case rel => exact ⟨k + 1, by omega, by go_num, B2x.out⟩
                 case measure => simp [intOf] <;> omega)
          · have he1 : (e != 0) = true := by simpa using he0
            clear hgo he0
            go_wp2_with fail
            first
              | exact ⟨⟨k + 1, by omega, by go_num, B2x.out⟩, by simp [intOf] <;> omega⟩
              | (go_roundw
                 case rel => exact ⟨k + 1, by omega, by go_num, B2x.out⟩
                 case measure => simp [intOf] <;> omega)
      · have hge : (es.length : Int) ≤ k := by omega
        have BE := Lib.hid (below_trans B1.out hBk B1.out.size)
        clear hlt hBk
        go_wp2_with fail
        refine (cut_any _).mono ?_
        rintro r w5 ⟨rfl, hB5⟩
        go_wp2_with fail
        go_ret
        exact ⟨rfl, below_trans BE.out hB5 BE.out.size⟩

end Go.Proofs.Ytpmkfhfojmlalaa

