
/-
  Package query: asked.
-/
import Derived.Test.YtpmkfhfojmlalaaQryB
namespace Go.Proofs.Ytpmkfhfojmlalaa
open Go.RowKit
set_option linter.unusedVariables false
set_option linter.unusedSimpArgs false
set_option maxRecDepth 100000

/-- A log's three slices. -/
structure LogOf (w : World) (ve vs vr : Value) (es : List Ev) (ss : List (Int × List Int)) (rs : List Rec) : Prop where
  evs : EvsOf w ve es
  sts : StsOf w vs ss
  recs : RecsOf w vr rs
  le : es.length ≤ 500
  ls : ss.length ≤ 500
  lr : rs.length ≤ 500
theorem LogOf.below {w w' : World} {ve vs vr : Value} {es : List Ev} {ss : List (Int × List Int)} {rs : List Rec} (h : LogOf w ve vs vr es ss rs) (hB : Below w.heap.size w w') : LogOf w' ve vs vr es ss rs :=
  ⟨h.evs.below (Nat.le_refl _) hB, h.sts.below (Nat.le_refl _) hB, h.recs.below (Nat.le_refl _) hB, h.le, h.ls, h.lr⟩
theorem LogOf.below' {w w' : World} {ve vs vr : Value} {es : List Ev} {ss : List (Int × List Int)} {rs : List Rec} (h : LogOf w ve vs vr es ss rs) {n : Nat} (hn : w.heap.size ≤ n) (hB : Below n w w') : LogOf w' ve vs vr es ss rs :=
  ⟨h.evs.below hn hB, h.sts.below hn hB, h.recs.below hn hB, h.le, h.ls, h.lr⟩

/-- Can an event be asked for? -/
def askedB (es : List Ev) (ss : List (Int × List Int)) (rs : List Rec) (i : Nat) : Bool :=
  (es.getD i default).kind != 13 && (recAt rs (es.getD i default).g).isSome && decide (0 ≤ tidE (ss.getD i (0, [])).1)

theorem recOut_there (rs : List Rec) (g : Int) : (recOut rs g).2 = (recAt rs g).isSome := by
  unfold recOut
  cases recAt rs g <;> rfl

theorem load_log {w : World} {p : Nat} {ve vs vr : Value} (h : w.heap[p]? = some (Obj.cells #[ve, vs, vr] 26 (0, 0))) : w.cell? ⟨p, 0, none⟩ = some ve ∧ w.cell? ⟨p, 1, none⟩ = some vs ∧ w.cell? ⟨p, 2, none⟩ = some vr := by
  refine ⟨?_, ?_, ?_⟩ <;> (simp only [World.cell?, h]; rfl)

theorem six_cells {w : World} {p : Nat} {t : TypeId} {a0 a1 a2 a3 a4 a5 : Value} (h : w.heap[p]? = some (Obj.cells #[a0, a1, a2, a3, a4, a5] t (0, 0))) :
    w.cell? ⟨p, 0, none⟩ = some a0 ∧ w.cell? ⟨p, 1, none⟩ = some a1 ∧ w.cell? ⟨p, 2, none⟩ = some a2 ∧ w.cell? ⟨p, 3, none⟩ = some a3 ∧ w.cell? ⟨p, 4, none⟩ = some a4 ∧ w.cell? ⟨p, 5, none⟩ = some a5 ∧ ∀ k, w.frozen? ⟨p, k, none⟩ = false := by
  refine ⟨?_, ?_, ?_, ?_, ?_, ?_, fun k => by simp [World.frozen?, h]⟩ <;> (simp only [World.cell?, h]; rfl)

/-- The contract of Record with its answer by name. -/
theorem record_by {rs : List Rec} {g : Int} {rr : Rec} {th : Bool} (hro : recOut rs g = (rr, th)) (ve vs vr : Value) (w : World) (h : RecsOf w vr rs) (hn : rs.length ≤ 500) :
    Calls Try.prog 13 #[.agg #[ve, vs, vr], .int .i64 g] w fun r w' => r = .returned (.tuple #[.agg #[.int .i64 rr.g, .int .i64 rr.tid, .int .i64 rr.frm, .bool rr.gone, .int .i64 rr.till, .int .i64 rr.cut], .bool th]) ∧ Below w.heap.size w w' := by
  have := record_any ve vs vr rs g w h (by omega)
  rw [hro] at this
  exact this

set_option maxHeartbeats 4000000 in
theorem asked_any (ve vs vr : Value) (es : List Ev) (ss : List (Int × List Int)) (rs : List Rec) (i : Nat) (w : World) (h : LogOf w ve vs vr es ss rs) (hi : i < es.length) (hi2 : i < ss.length) :
    Calls Try.prog 18 #[.agg #[ve, vs, vr], .int .i64 i] w fun x w' => x = .returned (.bool (askedB es ss rs i)) ∧ Below w.heap.size w w' := by
  obtain ⟨ao, ca, rfl⟩ := h.evs.shape
  obtain ⟨bo, cb, rfl⟩ := h.sts.shape
  obtain ⟨co, cc, rfl⟩ := h.recs.shape
  obtain ⟨W, hW⟩ : ∃ W, w.alloc (.cells #[.slice ao es.length ca, .slice bo ss.length cb, .slice co rs.length cc] 26) = W := ⟨_, rfl⟩
  have hB : Below w.heap.size w W := by rw [← hW]; exact (Below.refl _ _).alloc (Nat.le_refl _) _
  have hL : W.heap[w.heap.size]? = some (Obj.cells #[.slice ao es.length ca, .slice bo ss.length cb, .slice co rs.length cc] 26 (0, 0)) := by rw [← hW]; exact heap_alloc_new w _
  obtain ⟨l0, l1, l2⟩ := load_log hL
  have HW := Lib.hid hW
  have LW := Lib.hid (h.below hB)
  have BW := Lib.hid hB
  have HL := Lib.hid hL
  obtain ⟨eb, eo, rfl, hev⟩ := LW.out.evs.at i hi
  obtain ⟨sb, so, rfl, hst⟩ := LW.out.sts.at i hi2
  obtain ⟨e0, e1, _⟩ := hev
  obtain ⟨hwf, s0, _⟩ := hst
  have i1 : (i : Int) < es.length := by omega
  have i2 : (i : Int) < ss.length := by omega
  obtain ⟨ev, hev⟩ : ∃ ev, es.getD i default = ev := ⟨_, rfl⟩
  obtain ⟨st, hst⟩ : ∃ st, ss.getD i (0, []) = st := ⟨_, rfl⟩
  have EA := Lib.hid (show askedB es ss rs i = (ev.kind != 13 && (recOut rs ev.g).2 && decide (0 ≤ tidE st.1)) by unfold askedB; rw [hev, hst, recOut_there])
  obtain ⟨⟨rr, th⟩, hro⟩ : ∃ p, recOut rs ev.g = p := ⟨_, rfl⟩
  rw [hro] at EA
  have RO := Lib.hid hro
  clear hro
  rw [hev] at e0 e1
  rw [hst] at s0 hwf
  have WF := Lib.hid hwf
  clear hev hst hB hL hwf h
  have hBB := Below.refl W.heap.size W
  go_enter Try.func18, Try.ntmps18
  go_wp2_with fail
  try rw [HW.out]
  clear hW
  have BZ := hBB.alloc hBB.size (.cells #[.int .i64 0, .int .i64 0, .int .i64 0, .bool false, .int .i64 0, .int .i64 0] 45)
  have l0a := (BZ.cell (p := ⟨w.heap.size, 0, none⟩) (block_lt_of_cell l0)).trans l0
  have l1a := (BZ.cell (p := ⟨w.heap.size, 1, none⟩) (block_lt_of_cell l1)).trans l1
  have l2a := (BZ.cell (p := ⟨w.heap.size, 2, none⟩) (block_lt_of_cell l2)).trans l2
  have e1a := (BZ.cell (p := ⟨eb, eo + i * 8 + 1, none⟩) (block_lt_of_cell e1)).trans e1
  have n1 : ¬ w.heap.size = W.heap.size := by have := block_lt_of_cell l0; simp at this; omega
  have n2 : ¬ eb = W.heap.size := by have := block_lt_of_cell e1; simp at this; omega
  have n3 : ¬ W.heap.size = w.heap.size := fun e => n1 e.symm
  have n4 : ¬ W.heap.size = eb := fun e => n2 e.symm
  go_region_held3 (fun w' => w'.cell? ⟨w.heap.size, 0, none⟩ = some (.slice (some ⟨eb, eo, none⟩) es.length ca) ∧ w'.cell? ⟨w.heap.size, 1, none⟩ = some (.slice (some ⟨sb, so, none⟩) ss.length cb) ∧ w'.cell? ⟨w.heap.size, 2, none⟩ = some (.slice co rs.length cc) ∧ w'.cell? ⟨eb, eo + i * 8 + 1, none⟩ = some (.int .i64 ev.g))
    (go_keep)
    (first
      | (go_at_call 13; refine (record_by RO.out _ _ _ W.drew (LW.out.below hBB.drew).recs LW.out.lr).mono ?_; rintro r w3 ⟨rfl, hB3⟩; have hB4 : Below W.heap.size W w3 := below_trans hBB.drew hB3 (Nat.le_refl _); have hl := load_log ((hB4.block _ (lt_of_heap HL.out)).trans HL.out); have g0 := hl.1; have g1 := hl.2.1; have g2 := hl.2.2; have g3 := (hB4.cell (p := ⟨eb, eo + i * 8 + 1, none⟩) (block_lt_of_cell e1)).trans e1; clear hl; have g4 := (hB4.cell (p := ⟨eb, eo + i * 8, none⟩) (block_lt_of_cell e0)).trans e0)
      | (go_at_call 13; refine (record_by RO.out _ _ _ (W.alloc (.cells #[.int .i64 0, .int .i64 0, .int .i64 0, .bool false, .int .i64 0, .int .i64 0] 45)).drew (LW.out.below (hBB.alloc hBB.size _).drew).recs LW.out.lr).mono ?_; rintro r w3 ⟨rfl, hB3⟩; have hB4 : Below W.heap.size W w3 := below_trans (hBB.alloc hBB.size (.cells #[.int .i64 0, .int .i64 0, .int .i64 0, .bool false, .int .i64 0, .int .i64 0] 45)).drew hB3 (by simp); have hl := load_log ((hB4.block _ (lt_of_heap HL.out)).trans HL.out); have g0 := hl.1; have g1 := hl.2.1; have g2 := hl.2.2; have g3 := (hB4.cell (p := ⟨eb, eo + i * 8 + 1, none⟩) (block_lt_of_cell e1)).trans e1; clear hl; have g4 := (hB4.cell (p := ⟨eb, eo + i * 8, none⟩) (block_lt_of_cell e0)).trans e0; obtain ⟨z0, z1, z2, z3, z4, z5, zf⟩ := six_cells ((hB3.block W.heap.size (by simp)).trans (show (W.alloc (.cells #[.int .i64 0, .int .i64 0, .int .i64 0, .bool false, .int .i64 0, .int .i64 0] 45)).drew.heap[W.heap.size]? = _ from heap_alloc_new W (.cells #[.int .i64 0, .int .i64 0, .int .i64 0, .bool false, .int .i64 0, .int .i64 0] 45)))))
  all_goals first
    | (obtain ⟨V, hV, BV⟩ : ∃ V, w3.alloc (.cells #[.int .i64 rr.g, .int .i64 rr.tid, .int .i64 rr.frm, .bool rr.gone, .int .i64 rr.till, .int .i64 rr.cut] 45) = V ∧ Below W.heap.size W V := ⟨_, rfl, hB4.alloc hB4.size _⟩; rw [hV]; clear hV)
    | (obtain ⟨V, hV, BV⟩ : ∃ V, (((((w3.setCell ⟨W.heap.size, 0, none⟩ (.int .i64 rr.g)).setCell ⟨W.heap.size, 1, none⟩ (.int .i64 rr.tid)).setCell ⟨W.heap.size, 2, none⟩ (.int .i64 rr.frm)).setCell ⟨W.heap.size, 3, none⟩ (.bool rr.gone)).setCell ⟨W.heap.size, 4, none⟩ (.int .i64 rr.till)).setCell ⟨W.heap.size, 5, none⟩ (.int .i64 rr.cut) = V ∧ Below W.heap.size W V := ⟨_, rfl, six_below _ _ _ _ _ _ hB4 (Nat.le_refl _)⟩; rw [hV]; clear hV z0 z1 z2 z3 z4 z5 zf)
  all_goals
    have v0 := (load_log ((BV.block _ (lt_of_heap HL.out)).trans HL.out)).1
    have v4 := (BV.cell (p := ⟨eb, eo + i * 8, none⟩) (block_lt_of_cell e0)).trans e0
    have BV' := Lib.hid (below_trans BW.out BV BW.out.size)
    clear g0 g1 g2 g3 g4 l0 l1 l2 l0a l1a l2a e1a e0 e1 s0 hB3 hB4 BZ hBB BV n1 n2 n3 n4
    cases hk : (ev.kind != 13) with
    | false =>
      have E := Lib.hid (show askedB es ss rs i = false by rw [EA.out, hk]; rfl)
      clear EA
      go_wp2_with fail
      go_ret
      exact ⟨by rw [E.out]; rfl, BV'.out⟩
    | true =>
      cases th with
      | false =>
        have E := Lib.hid (show askedB es ss rs i = false by rw [EA.out, hk]; rfl)
        clear EA
        go_wp2_with fail
        go_ret
        exact ⟨by rw [E.out]; rfl, BV'.out⟩
      | true =>
        have E := Lib.hid (show askedB es ss rs i = decide (0 ≤ tidE st.1) by rw [EA.out, hk]; rfl)
        clear EA
        go_wp2_with fail
        refine (tid_any st.1 _ WF.out.1 WF.out.2).mono ?_
        rintro r w4 ⟨rfl, rfl⟩
        go_wp2_with fail
        go_ret
        exact ⟨by rw [E.out]; rfl, BV'.out⟩

end Go.Proofs.Ytpmkfhfojmlalaa

