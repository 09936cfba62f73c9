
/-
  staithelaw22: QueryBefore.
-/
import Derived.Test.YtpmkfhfojmlalaaQryK
namespace Go.Proofs.Ytpmkfhfojmlalaa
open Go.RowKit
set_option linter.unusedVariables false
set_option linter.unusedSimpArgs false
set_option maxRecDepth 100000

set_option maxHeartbeats 2000000 in
theorem before_law (ve vs vr : Value) (es : List Ev) (ss : List (Int × List Int)) (rs : List Rec) (a b : Int) (w : World) (he : EvsOf w ve es) (hs : StsOf w vs ss) (hr : RecsOf w vr rs) :
    Calls Try.prog 3 #[.agg #[ve, vs, vr], .int .i64 a, .int .i64 b] w (RetB (.bool true) w) := by
  obtain ⟨ao, ca, rfl⟩ := he.shape
  obtain ⟨bo, cb, rfl⟩ := hs.shape
  obtain ⟨co, cc, rfl⟩ := hr.shape
  obtain ⟨W, hW⟩ : ∃ W, w.alloc (.cells #[.slice ao es.length ca, .slice bo ss.length cb, .slice co rs.length cc] 26) = W := ⟨_, rfl⟩
  have hB : Below w.heap.size w W := by rw [← hW]; exact (Below.refl _ _).alloc (Nat.le_refl _) _
  have hL : W.heap[w.heap.size]? = some (Obj.cells #[.slice ao es.length ca, .slice bo ss.length cb, .slice co rs.length cc] 26 (0, 0)) := by rw [← hW]; exact heap_alloc_new w _
  obtain ⟨l0, l1, l2⟩ := load_log hL
  have HW := Lib.hid hW
  have BW := Lib.hid hB
  have HL := Lib.hid hL
  have HE := Lib.hid he
  have HS := Lib.hid hs
  have HR := Lib.hid hr
  clear he hs hr hB hL
  go_enter Try.func3, Try.ntmps3
  go_wp2_with fail
  try rw [HW.out]
  clear hW
  refine (qlarge_any es.length ss.length rs.length ca cb cc ao bo co W).mono ?_
  rintro r w1 ⟨rfl, hB1⟩
  have h1 := (hB1.block _ (lt_of_heap HL.out)).trans HL.out
  obtain ⟨m0, m1, m2⟩ := load_log h1
  have H1 := Lib.hid h1
  have B1 := Lib.hid (below_trans BW.out hB1 BW.out.size)
  clear l0 l1 l2 h1 hB1
  cases hq : qlargeB es.length ss.length rs.length with
  | true =>
    go_wp2_with fail
    refine (cut_any _).mono ?_
    rintro r w2 ⟨rfl, hB2⟩
    go_wp2_with fail
    go_ret
    exact ⟨rfl, below_trans B1.out hB2 B1.out.size⟩
  | false =>
    have hq' := of_decide_eq_false hq
    have LG := Lib.hid (show LogOf w1 (.slice ao es.length ca) (.slice bo ss.length cb) (.slice co rs.length cc) es ss rs from ⟨HE.out.below (Nat.le_refl _) B1.out, HS.out.below (Nat.le_refl _) B1.out, HR.out.below (Nat.le_refl _) B1.out, by omega, by omega, by omega⟩)
    clear hq'
    go_wp2_with fail
    refine (before_any _ _ _ es ss rs a b w1 LG.out).mono ?_
    rintro r w2 ⟨rfl, hB2⟩
    have h2 := (hB2.block _ (lt_of_heap H1.out)).trans H1.out
    obtain ⟨n0, n1, n2⟩ := load_log h2
    have H2 := Lib.hid h2
    have B2 := Lib.hid (below_trans B1.out hB2 B1.out.size)
    have LG2 := Lib.hid (LG.out.below hB2)
    obtain ⟨⟨x, e⟩, hxe⟩ : ∃ p, beforeV es ss rs a b = p := ⟨_, rfl⟩
    rw [hxe]
    have XE := Lib.hid hxe
    clear m0 m1 m2 h2 hB2 hxe
    go_wp2_with fail
    refine (ref_any _ _ _ es ss rs w2 LG2.out).mono ?_
    rintro r w3 ⟨vS, vR, rfl, hRL, hB3⟩
    have B3 := Lib.hid (below_trans B2.out hB3 B2.out.size)
    have RL := Lib.hid hRL
    clear n0 n1 n2 hB3 hRL
    go_wp2_with fail
    refine (rbefore_any _ _ _ es ss rs a b w3 RL.out).mono ?_
    rintro r w4 ⟨rfl, hB4⟩
    rw [XE.out]
    have B4 := Lib.hid (below_trans B3.out hB4 B3.out.size)
    clear hB4
    go_wp2_with fail
    refine (cut_any _).mono ?_
    rintro r w5 ⟨rfl, hB5⟩
    go_wp2_with fail
    go_ret
    exact ⟨rfl, below_trans B4.out hB5 B4.out.size⟩

end Go.Proofs.Ytpmkfhfojmlalaa

