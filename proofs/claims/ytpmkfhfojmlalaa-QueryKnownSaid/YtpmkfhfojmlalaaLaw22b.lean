
/-
  staithelaw22: QueryKnown.
-/
import Derived.Test.YtpmkfhfojmlalaaLaw22
namespace Go.Proofs.Ytpmkfhfojmlalaa
open Go.RowKit
set_option linter.unusedVariables false
set_option linter.unusedSimpArgs false
set_option maxRecDepth 100000

set_option maxHeartbeats 2000000 in
theorem known_law (ve vs vr : Value) (es : List Ev) (ss : List (Int × List Int)) (rs : List Rec) (b g : Int) (w : World) (he : EvsOf w ve es) (hs : StsOf w vs ss) (hr : RecsOf w vr rs) :
    Calls Try.prog 4 #[.agg #[ve, vs, vr], .int .i64 b, .int .i64 g] w (RetB (.bool true) w) := by
  obtain ⟨ao, ca, rfl⟩ := he.shape
  obtain ⟨bo, cb, rfl⟩ := hs.shape
  obtain ⟨co, cc, rfl⟩ := hr.shape
  obtain ⟨W, hW⟩ : ∃ W, w.alloc (.cells #[.slice ao es.length ca, .slice bo ss.length cb, .slice co rs.length cc] 26) = W := ⟨_, rfl⟩
  have hB : Below w.heap.size w W := by rw [← hW]; exact (Below.refl _ _).alloc (Nat.le_refl _) _
  have hL : W.heap[w.heap.size]? = some (Obj.cells #[.slice ao es.length ca, .slice bo ss.length cb, .slice co rs.length cc] 26 (0, 0)) := by rw [← hW]; exact heap_alloc_new w _
  obtain ⟨l0, l1, l2⟩ := load_log hL
  have HW := Lib.hid hW
  have BW := Lib.hid hB
  have HL := Lib.hid hL
  have HE := Lib.hid he
  have HS := Lib.hid hs
  have HR := Lib.hid hr
  clear he hs hr hB hL
  go_enter Try.func4, Try.ntmps4
  go_wp2_with fail
  try rw [HW.out]
  clear hW
  refine (qlarge_any es.length ss.length rs.length ca cb cc ao bo co W).mono ?_
  rintro r w1 ⟨rfl, hB1⟩
  have h1 := (hB1.block _ (lt_of_heap HL.out)).trans HL.out
  obtain ⟨m0, m1, m2⟩ := load_log h1
  have H1 := Lib.hid h1
  have B1 := Lib.hid (below_trans BW.out hB1 BW.out.size)
  clear l0 l1 l2 h1 hB1
  cases hq : qlargeB es.length ss.length rs.length with
  | true =>
    go_wp2_with fail
    refine (cut_any _).mono ?_
    rintro r w2 ⟨rfl, hB2⟩
    go_wp2_with fail
    go_ret
    exact ⟨rfl, below_trans B1.out hB2 B1.out.size⟩
  | false =>
    have hq' := of_decide_eq_false hq
    have LG := Lib.hid (show LogOf w1 (.slice ao es.length ca) (.slice bo ss.length cb) (.slice co rs.length cc) es ss rs from ⟨HE.out.below (Nat.le_refl _) B1.out, HS.out.below (Nat.le_refl _) B1.out, HR.out.below (Nat.le_refl _) B1.out, by omega, by omega, by omega⟩)
    clear hq'
    go_wp2_with fail
    refine (ref_any _ _ _ es ss rs w1 LG.out).mono ?_
    rintro r w2 ⟨vS, vR, rfl, hRL, hB2⟩
    obtain ⟨aS, cS, rfl⟩ := hRL.sts.shape
    obtain ⟨aR, cR, rfl⟩ := hRL.recs.shape
    obtain ⟨V, hV⟩ : ∃ V, w2.alloc (.cells #[.slice ao es.length ca, .slice aS ss.length cS, .slice aR rs.length cR] 37) = V := ⟨_, rfl⟩
    have BV : Below w2.heap.size w2 V := by rw [← hV]; exact (Below.refl _ _).alloc (Nat.le_refl _) _
    have hRV : V.heap[w2.heap.size]? = some (Obj.cells #[.slice ao es.length ca, .slice aS ss.length cS, .slice aR rs.length cR] 37 (0, 0)) := by rw [← hV]; exact heap_alloc_new w2 _
    have BB := below_trans hB2 BV hB2.size
    have h2 := (BB.block _ (lt_of_heap H1.out)).trans H1.out
    obtain ⟨n0, n1, n2⟩ := load_log h2
    have H2 := Lib.hid h2
    have HRV := Lib.hid hRV
    have B2 := Lib.hid (below_trans B1.out BB B1.out.size)
    have LG2 := Lib.hid (LG.out.below BB)
    have RL2 := Lib.hid (hRL.below BV)
    have HV := Lib.hid hV
    obtain ⟨⟨x, e⟩, hxe⟩ : ∃ p, knownV es ss rs b g = p := ⟨_, rfl⟩
    have XE := Lib.hid hxe
    clear m0 m1 m2 h2 hB2 hxe hRL BV BB hRV
    go_wp2_with fail
    try rw [HV.out]
    clear hV
    refine (known_any _ _ _ es ss rs b g V LG2.out).mono ?_
    rintro r w3 ⟨rfl, hB3⟩
    rw [XE.out]
    have h3 := (hB3.block _ (lt_of_heap HRV.out)).trans HRV.out
    obtain ⟨o0, o1, o2⟩ := load_rlog h3
    have H3r := Lib.hid h3
    have H3 := Lib.hid ((hB3.block _ (lt_of_heap H2.out)).trans H2.out)
    have B3 := Lib.hid (below_trans B2.out hB3 B2.out.size)
    have LG3 := Lib.hid (LG2.out.below hB3)
    have RL3 := Lib.hid (RL2.out.below hB3)
    clear n0 n1 n2 h3 hB3
    go_wp2_with fail
    refine (rknown_any _ _ _ es ss rs b g w3 RL3.out).mono ?_
    rintro r w4 ⟨rfl, hB4⟩
    rw [XE.out]
    obtain ⟨p0, p1, p2⟩ := load_log ((hB4.block _ (lt_of_heap H3.out)).trans H3.out)
    have H4 := Lib.hid ((hB4.block _ (lt_of_heap H3.out)).trans H3.out)
    have H4r := Lib.hid ((hB4.block _ (lt_of_heap H3r.out)).trans H3r.out)
    have B4 := Lib.hid (below_trans B3.out hB4 B3.out.size)
    have LG4 := Lib.hid (LG3.out.below hB4)
    have RL4 := Lib.hid (RL3.out.below hB4)
    obtain ⟨⟨⟨rg, rt, rf, rgo, rti, rcu⟩, th⟩, hro⟩ : ∃ p, recOut rs g = p := ⟨_, rfl⟩
    have RO := Lib.hid hro
    clear o0 o1 o2 hB4 hro
    go_wp2_with fail
    refine (record_by RO.out _ _ _ w4 LG4.out.recs LG4.out.lr).mono ?_
    rintro r w5 ⟨rfl, hB5⟩
    obtain ⟨X, hX⟩ : ∃ X, w5.alloc (.cells #[.int .i64 rg, .int .i64 rt, .int .i64 rf, .bool rgo, .int .i64 rti, .int .i64 rcu] 45) = X := ⟨_, rfl⟩
    have BX : Below w5.heap.size w5 X := by rw [← hX]; exact (Below.refl _ _).alloc (Nat.le_refl _) _
    have hrX : X.heap[w5.heap.size]? = some (Obj.cells #[.int .i64 rg, .int .i64 rt, .int .i64 rf, .bool rgo, .int .i64 rti, .int .i64 rcu] 45 (0, 0)) := by rw [← hX]; exact heap_alloc_new w5 _
    have BB5 := below_trans hB5 BX hB5.size
    obtain ⟨q0, q1, q2⟩ := load_rlog ((BB5.block _ (lt_of_heap H4r.out)).trans H4r.out)
    have H5 := Lib.hid ((BB5.block _ (lt_of_heap H4.out)).trans H4.out)
    have HRX := Lib.hid hrX
    have B5 := Lib.hid (below_trans B4.out BB5 B4.out.size)
    have LG5 := Lib.hid (LG4.out.below BB5)
    have RL5 := Lib.hid (RL4.out.below BB5)
    have HX := Lib.hid hX
    clear p0 p1 p2 hB5 BX hrX BB5
    dsimp only
    go_wp2_with fail
    try rw [HX.out]
    clear hX
    refine (rof_g _ _ _ rs g X RL5.out.recs RL5.out.lr ⟨_, _, _, rfl⟩ ⟨_, _, _, rfl⟩).mono ?_
    rintro r w6 ⟨rfl, hB6⟩
    obtain ⟨s0, s1, s2⟩ := load_log ((hB6.block _ (lt_of_heap H5.out)).trans H5.out)
    obtain ⟨t0, t1, t2, t3, t4, t5, _⟩ := six_cells ((hB6.block _ (lt_of_heap HRX.out)).trans HRX.out)
    have B6 := Lib.hid (below_trans B5.out hB6 B5.out.size)
    have LG6 := Lib.hid (LG5.out.below hB6)
    clear q0 q1 q2 hB6
    cases hk : recAt rs g with
    | none =>
      have RI := Lib.hid (show recI rs g = -1 by unfold recI; rw [hk])
      have hz := RO.out
      unfold recOut at hz
      rw [hk] at hz
      cases hz
      rw [RI.out]
      clear hk
      go_wp2_with fail
      go_quiet (fail)
      go_wp2_with fail
      refine (cut_any _).mono ?_
      rintro r w7 ⟨rfl, hB7⟩
      go_wp2_with fail
      go_ret
      refine ⟨rfl, ?_⟩
      first | exact below_trans (below_drewN B6.out _) hB7 B6.out.size | exact below_trans B6.out hB7 B6.out.size
    | some k =>
      obtain ⟨hkl, _⟩ := recAt_lt hk
      have RI := Lib.hid (show recI rs g = k by unfold recI; rw [hk])
      have hz := RO.out
      unfold recOut at hz
      rw [hk] at hz
      have hz1 : rs.getD k default = ⟨rg, rt, rf, rgo, rti, rcu⟩ := congrArg Prod.fst hz
      have hz2 : true = th := congrArg Prod.snd hz
      subst hz2
      rw [RI.out]
      obtain ⟨_, _, e', hcc⟩ := LG6.out.recs
      cases e'
      obtain ⟨rb, ro, rfl, hcd⟩ := hcc (by omega)
      have hra := hcd k hkl
      rw [hz1] at hra
      obtain ⟨c0, c1, c2, c3, c4, c5⟩ := hra
      dsimp only at c0 c1 c2 c3 c4 c5
      have hk' : (k : Int) < rs.length := by omega
      clear hk hz hz1 hcc hcd
      go_wp2_with fail
      go_quiet (fail)
      go_wp2_with fail
      refine (cut_any _).mono ?_
      rintro r w7 ⟨rfl, hB7⟩
      go_wp2_with fail
      go_ret
      refine ⟨rfl, ?_⟩
      first | exact below_trans (below_drewN B6.out _) hB7 B6.out.size | exact below_trans B6.out hB7 B6.out.size

end Go.Proofs.Ytpmkfhfojmlalaa

