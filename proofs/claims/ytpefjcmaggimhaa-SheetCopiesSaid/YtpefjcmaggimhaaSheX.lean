
/-
  Package sheet: Copy, Bare; the reference's Bare.
  Package sheet: Bare; the reference's Bare.
-/
import Derived.Test.YtpefjcmaggimhaaSheU
namespace Go.Proofs.Ytpefjcmaggimhaa
open Go.RowKit
set_option linter.unusedVariables false
set_option linter.unusedSimpArgs false
set_option maxRecDepth 100000

/-- A script all of whose blocks are one's own. -/
structure ScrC (base : Nat) (w : World) (vp vl vd : Value) (qs : List Pr) (s : Scr) : Prop where
  p : PrsC base w vp qs
  eq : qs.map Pr.ops = s.ps
  l : w.ownsRow base 3 1 vl s.pl.length (ints s.pl)
  d : w.ownsRow base 3 1 vd s.dr.length (ints s.dr)
  ne : vd.ownBlock = none ∨ vd.ownBlock ≠ vl.ownBlock
theorem ScrC.below {base : Nat} {w w' : World} {vp vl vd : Value} {qs : List Pr} {s : Scr} (h : ScrC base w vp vl vd qs s) {m : Nat} (hm : w.heap.size ≤ m) (hB : Below m w w') : ScrC base w' vp vl vd qs s :=
  ⟨h.p.below hm hB, h.eq, own_below h.l hm hB, own_below h.d hm hB, h.ne⟩
theorem ScrC.low {base base' : Nat} {w : World} {vp vl vd : Value} {qs : List Pr} {s : Scr} (h : ScrC base w vp vl vd qs s) (hb : base' ≤ base) : ScrC base' w vp vl vd qs s :=
  ⟨h.p.low hb, h.eq, owns_low h.l hb, owns_low h.d hb, h.ne⟩
theorem ScrC.keep {base : Nat} {w w' : World} {vp vl vd : Value} {qs : List Pr} {s : Scr} (h : ScrC base w vp vl vd qs s) {k : Nat} (hg : w.grownBy w' (some k)) {cur : Array Value} {f : Nat × Nat} (hk : w.heap[k]? = some (.cells cur 25 f)) : ScrC base w' vp vl vd qs s :=
  ⟨h.p.keep hg (othB_cell hk (by decide)), h.eq, own_keep h.l hg (othB_cell hk (ts := [3]) (by decide)) (by simp), own_keep h.d hg (othB_cell hk (ts := [3]) (by decide)) (by simp), h.ne⟩
theorem ScrC.at {base : Nat} {w : World} {vp vl vd : Value} {qs : List Pr} {s : Scr} (h : ScrC base w vp vl vd qs s) : ScrAt w vp vl vd s :=
  ⟨by rw [← h.eq]; exact h.p.prRow.prs, SlI.of_owns h.l, SlI.of_owns h.d⟩
structure SzS (s : Scr) : Prop where
  p : PsN s.ps
  l : s.pl.length ≤ 1000000
  d : s.dr.length ≤ 1000000
/-- The box, and the result's cells. -/
structure Two (w0 w : World) (A B : Array Value) : Prop where
  box : w.heap[w0.heap.size]? = some (.cells A 25 (0, 0))
  res : w.heap[w0.heap.size + 1]? = some (.cells B 25 (0, 0))
  bel : Below w0.heap.size w0 w
theorem Two.below {w0 w w' : World} {A B : Array Value} (h : Two w0 w A B) (hB : Below w.heap.size w w') : Two w0 w' A B :=
  ⟨(hB.block _ (lt_of_heap h.box)).trans h.box, (hB.block _ (lt_of_heap h.res)).trans h.res, h.bel.trans (hB.mono h.bel.size)⟩
theorem Two.new (w : World) (A B : Array Value) : Two w ((w.alloc (.cells A 25)).alloc (.cells B 25)) A B := by
  have e2 := heap_alloc_new (w.alloc (.cells A 25)) (.cells B 25)
  rw [World.size_alloc] at e2
  exact ⟨(heap_alloc_old _ _ (by simp)).trans (heap_alloc_new _ _), e2, ((Below.refl _ _).alloc (Nat.le_refl _) _).alloc (by simp) _⟩
theorem Two.set {w0 w : World} {A B : Array Value} (h : Two w0 w A B) (c : Nat) (u : Value) : Two w0 (w.setCell ⟨w0.heap.size, c, none⟩ u) (A.setIfInBounds c u) B ∧ w.grownBy (w.setCell ⟨w0.heap.size, c, none⟩ u) (some w0.heap.size) :=
  ⟨⟨heap_setCell_same _ _ _ _ _ _ h.box, (heap_setCell_other _ _ _ _ (by show w0.heap.size + 1 ≠ w0.heap.size; omega)).trans h.res, h.bel.setCell (Nat.le_refl _) _⟩, gr_set _ _ _⟩
theorem Two.setR {w0 w : World} {A B : Array Value} (h : Two w0 w A B) (c : Nat) (u : Value) : Two w0 (w.setCell ⟨w0.heap.size + 1, c, none⟩ u) A (B.setIfInBounds c u) ∧ w.grownBy (w.setCell ⟨w0.heap.size + 1, c, none⟩ u) (some (w0.heap.size + 1)) :=
  ⟨⟨(heap_setCell_other _ _ _ _ (by show w0.heap.size ≠ w0.heap.size + 1; omega)).trans h.box, heap_setCell_same _ _ _ _ _ _ h.res, h.bel.setCell (by simp) _⟩, gr_set _ _ _⟩
/-- The whole script into the result's cells. -/
theorem Two.whole {w0 w : World} {A : Array Value} {vp vl vd ep el ed : Value} {s s0 : Scr} (h : Two w0 w A (scrC ep el ed s0)) {V : World}
    (hV : (((((w.setCell ⟨w0.heap.size + 1, 0, none⟩ (.int .i64 s.t)).setCell ⟨w0.heap.size + 1, 1, none⟩ (.int .i64 s.m)).setCell ⟨w0.heap.size + 1, 2, none⟩ vp).setCell ⟨w0.heap.size + 1, 3, none⟩ vl).setCell ⟨w0.heap.size + 1, 4, none⟩ vd) = V) :
    Two w0 V A (scrC vp vl vd s) ∧ w.grownBy V (some (w0.heap.size + 1)) := by
  obtain ⟨h1, g1⟩ := h.setR 0 (.int .i64 s.t)
  obtain ⟨h2, g2⟩ := h1.setR 1 (.int .i64 s.m)
  obtain ⟨h3, g3⟩ := h2.setR 2 vp
  obtain ⟨h4, g4⟩ := h3.setR 3 vl
  obtain ⟨h5, g5⟩ := h4.setR 4 vd
  rw [hV] at h5 g5
  refine ⟨?_, (((g1.trans g2).trans g3).trans g4).trans g5⟩
  have e : (((((scrC ep el ed s0).setIfInBounds 0 (.int .i64 s.t)).setIfInBounds 1 (.int .i64 s.m)).setIfInBounds 2 vp).setIfInBounds 3 vl).setIfInBounds 4 vd = scrC vp vl vd s := rfl
  rw [e] at h5
  exact h5
theorem own_ne {w w' : World} {b1 : Nat} {t1 t2 : TypeId} {k1 k2 n1 n2 : Nat} {v1 v2 : Value} {x1 x2 : List Value} (h1 : w.ownsRow b1 t1 k1 v1 n1 x1) (h2 : w'.ownsRow w.heap.size t2 k2 v2 n2 x2) : v2.ownBlock = none ∨ v2.ownBlock ≠ v1.ownBlock := by
  cases hv : v2.ownBlock with
  | none => exact .inl rfl
  | some k =>
    refine .inr fun e => ?_
    have := (h2.lt k hv).1
    have := (h1.lt k e.symm).2
    omega
def CopyPost (s : Scr) (w : World) (r : Ending) (w' : World) : Prop := ∃ vp vl vd qs, r = .returned (scrV vp vl vd s) ∧ ScrC w.heap.size w' vp vl vd qs s ∧ Below w.heap.size w w'
theorem copy_end {s : Scr} {w V : World} {vp vl vd : Value} {qs : List Pr} {A : Array Value} {tmps : Array Value} (hc : Two w V A (scrC vp vl vd s))
    (ht : tmps.getD 2 undef = .pointer (some ⟨w.heap.size + 1, 0, none⟩)) (hs : ScrC w.heap.size V vp vl vd qs s) :
    bodyPost Try.prog Try.f17 (CopyPost s w) Exit.ret { tmps := tmps, defers := [] } V := by
  have ht' : tmps[2]?.getD undef = .pointer (some ⟨w.heap.size + 1, 0, none⟩) := by simpa using ht
  obtain ⟨z0, z1, z2, z3, z4⟩ := sc_cells hc.res
  refine bodyPost_ret (v := scrV vp vl vd s) ?_ rfl ⟨vp, vl, vd, qs, rfl, hs, hc.bel⟩
  simp [results, Try.results17, ht', asAddr, go_sem, z0, z1, z2, z3, z4, scrV, scrC]
set_option maxHeartbeats 2000000 in
theorem copy_any (vp vl vd : Value) (s : Scr) (w : World) (h : ScrAt w vp vl vd s) (hN : SzS s) : Calls Try.prog 17 #[scrV vp vl vd s] w (CopyPost s w) := by
  obtain ⟨ap, cp, rfl⟩ := h.p.shape
  obtain ⟨al, cl, rfl⟩ := slI_shape h.l
  obtain ⟨ad, cd, rfl⟩ := slI_shape h.d
  have T0 := Lib.hid (Two.new w (scrC (.slice ap s.ps.length cp) (.slice al s.pl.length cl) (.slice ad s.dr.length cd) s) (scrC (.slice none 0 0) (.slice none 0 0) (.slice none 0 0) zeroScr))
  have EP := Lib.hid (each_prs _ s.ps _ (h.p.below (Nat.le_refl _) T0.out.bel) hN.p)
  have CL : ∀ W, Below w.heap.size w W → Calls Try.prog 49 #[.slice al s.pl.length cl] W (CloneI s.pl W) := fun W hW => clone_ints _ _ W (slI_below h.l (Nat.le_refl _) hW) hN.l
  have CD : ∀ W, Below w.heap.size w W → Calls Try.prog 49 #[.slice ad s.dr.length cd] W (CloneI s.dr W) := fun W hW => clone_ints _ _ W (slI_below h.d (Nat.le_refl _) hW) hN.d
  have CL1 := Lib.hid CL
  have CD1 := Lib.hid CD
  clear CL CD h hN
  obtain ⟨t, m, ps, pl, dr⟩ := s
  unfold EachP at EP
  unfold CloneI at CL1 CD1
  unfold scrV
  unfold scrC at T0 EP ⊢
  dsimp only [zeroScr] at T0 EP CL1 CD1 ⊢
  go_enter Try.func17, Try.ntmps17
  go_wp2_with fail
  refine EP.out.mono ?_
  rintro r w1 ⟨v', qs, rfl, hq, hp, hB⟩
  have T1 := Lib.hid (T0.out.below hB)
  have P1 := Lib.hid (hp.low (base' := w.heap.size) (by simp; omega))
  have HQ := Lib.hid hq
  obtain ⟨a', c', rfl⟩ := owns_slice hp.row
  clear hq hp hB EP T0
  obtain ⟨z0, z1, z2, z3, z4⟩ := sc_cells (s := ⟨t, m, [], [], []⟩) T1.out.box
  have zf : ∀ o, World.frozen? w1 ⟨w.heap.size, o, none⟩ = false := fun o => frozen_of_row _ _ o _ _ T1.out.box
  go_upto_region 2 with fail
  obtain ⟨wa, hwa⟩ : ∃ x, w1.setCell ⟨w.heap.size, 2, none⟩ (.slice a' qs.length c') = x := ⟨_, rfl⟩
  have T2 := Lib.hid (show Two w wa #[.int .i64 t, .int .i64 m, .slice a' qs.length c', .slice al pl.length cl, .slice ad dr.length cd] #[.int .i64 0, .int .i64 0, .slice none 0 0, .slice none 0 0, .slice none 0 0] ∧ w1.grownBy wa (some w.heap.size) from by rw [← hwa]; exact T1.out.set 2 _)
  have P2 := Lib.hid (P1.out.keep T2.out.2 (othB_cell T1.out.box (by decide)))
  rw [hwa]
  clear hwa T1 P1 z0 z1 z2 z3 z4 zf
  obtain ⟨z0, z1, z2, z3, z4⟩ := sc_cells (s := ⟨t, m, [], [], []⟩) T2.out.1.box
  have zf : ∀ o, World.frozen? wa ⟨w.heap.size, o, none⟩ = false := fun o => frozen_of_row _ _ o _ _ T2.out.1.box
  go_region_with
    (first
      | (go_at_call 49; (with_reducible refine (CL1.out _ (by first | exact T2.out.1.bel.drew | exact T2.out.1.bel)).mono ?_); rintro r w2 ⟨vl2, rfl, ho2, hb2⟩; obtain ⟨a2, c2, rfl⟩ := owns_slice ho2; have B2 := Lib.hid (show Below wa.heap.size wa w2 from by first | exact below_drewS hb2 | exact hb2); have T3 := Lib.hid (T2.out.1.below B2.out); have P3 := Lib.hid (P2.out.below (Nat.le_refl _) B2.out); have O3 := Lib.hid ho2; clear ho2 hb2 z0 z1 z2 z3 z4 zf; obtain ⟨z0, z1, z2, z3, z4⟩ := sc_cells (s := ⟨t, m, [], [], []⟩) T3.out.box; have zf : ∀ o, World.frozen? w2 ⟨w.heap.size, o, none⟩ = false := fun o => frozen_of_row _ _ o _ _ T3.out.box)
      | (go_at_call 49; (with_reducible refine (CD1.out _ T3.out.bel).mono ?_); rintro r w3 ⟨vd2, rfl, ho3, hb3⟩; obtain ⟨a3, c3, rfl⟩ := owns_slice ho3; have T4 := Lib.hid (T3.out.below hb3); have P4 := Lib.hid (P3.out.below (Nat.le_refl _) hb3); have Q4 := Lib.hid (own_below O3.out (Nat.le_refl _) hb3); have O4 := Lib.hid ho3; clear ho3 hb3 z0 z1 z2 z3 z4 zf; obtain ⟨z0, z1, z2, z3, z4⟩ := sc_cells (s := ⟨t, m, [], [], []⟩) T4.out.box; have zf : ∀ o, World.frozen? w3 ⟨w.heap.size, o, none⟩ = false := fun o => frozen_of_row _ _ o _ _ T4.out.box))
  all_goals
    have C4 : ScrC w.heap.size w3 (.slice a' qs.length c') (.slice a2 pl.length c2) (.slice a3 dr.length c3) qs ⟨t, m, ps, pl, dr⟩ :=
      ⟨P4.out, HQ.out, owns_low Q4.out T2.out.1.bel.size, owns_low O4.out T3.out.bel.size, own_ne O3.out O4.out⟩
    have T5 := T4.out.set 3 (.slice a2 pl.length c2)
    have T6 := T5.1.set 4 (.slice a3 dr.length c3)
    have C6 := Lib.hid ((C4.keep T5.2 T4.out.box).keep T6.2 T5.1.box)
    have U6 := Lib.hid (show Two w _ #[.int .i64 t, .int .i64 m, .slice a' qs.length c', .slice a2 pl.length c2, .slice a3 dr.length c3] _ from T6.1)
    obtain ⟨w4, hw4⟩ : ∃ x, (w3.setCell ⟨w.heap.size, 3, none⟩ (.slice a2 pl.length c2)).setCell ⟨w.heap.size, 4, none⟩ (.slice a3 dr.length c3) = x := ⟨_, rfl⟩
    rw [hw4] at C6 U6 ⊢
    clear hw4 T5 T6 C4 z0 z1 z2 z3 z4 zf T4 T3 T2 P4 P3 P2 Q4 O4 O3
    obtain ⟨z0, z1, z2, z3, z4⟩ := sc_cells (s := ⟨t, m, [], [], []⟩) U6.out.box
    obtain ⟨y0, y1, y2, y3, y4⟩ := sc_cells (s := ⟨0, 0, [], [], []⟩) U6.out.res
    have yf : ∀ o, World.frozen? w4 ⟨w.heap.size + 1, o, none⟩ = false := fun o => frozen_of_row _ _ o _ _ U6.out.res
    go_wp2_with fail
    obtain ⟨V, hV⟩ : ∃ V, (((((w4.setCell ⟨w.heap.size + 1, 0, none⟩ (.int .i64 t)).setCell ⟨w.heap.size + 1, 1, none⟩ (.int .i64 m)).setCell ⟨w.heap.size + 1, 2, none⟩ (.slice a' qs.length c')).setCell ⟨w.heap.size + 1, 3, none⟩ (.slice a2 pl.length c2)).setCell ⟨w.heap.size + 1, 4, none⟩ (.slice a3 dr.length c3)) = V := ⟨_, rfl⟩
    obtain ⟨e1, e2⟩ := Two.whole (s := ⟨t, m, ps, pl, dr⟩) (s0 := zeroScr) U6.out hV
    rw [hV]
    exact copy_end e1 rfl (C6.out.keep e2 U6.out.res)
end Go.Proofs.Ytpefjcmaggimhaa
namespace Go.Proofs.Ytpefjcmaggimhaa
open Go.RowKit
set_option linter.unusedVariables false
set_option linter.unusedSimpArgs false
set_option maxRecDepth 100000

theorem Two.wholeB {w0 w : World} {B : Array Value} {vp vl vd ep el ed : Value} {s s0 : Scr} (h : Two w0 w (scrC ep el ed s0) B) {V : World}
    (hV : (((((w.setCell ⟨w0.heap.size, 0, none⟩ (.int .i64 s.t)).setCell ⟨w0.heap.size, 1, none⟩ (.int .i64 s.m)).setCell ⟨w0.heap.size, 2, none⟩ vp).setCell ⟨w0.heap.size, 3, none⟩ vl).setCell ⟨w0.heap.size, 4, none⟩ vd) = V) :
    Two w0 V (scrC vp vl vd s) B ∧ w.grownBy V (some w0.heap.size) := by
  obtain ⟨h1, g1⟩ := h.set 0 (.int .i64 s.t)
  obtain ⟨h2, g2⟩ := h1.set 1 (.int .i64 s.m)
  obtain ⟨h3, g3⟩ := h2.set 2 vp
  obtain ⟨h4, g4⟩ := h3.set 3 vl
  obtain ⟨h5, g5⟩ := h4.set 4 vd
  rw [hV] at h5 g5
  refine ⟨?_, (((g1.trans g2).trans g3).trans g4).trans g5⟩
  have e : (((((scrC ep el ed s0).setIfInBounds 0 (.int .i64 s.t)).setIfInBounds 1 (.int .i64 s.m)).setIfInBounds 2 vp).setIfInBounds 3 vl).setIfInBounds 4 vd = scrC vp vl vd s := rfl
  rw [e] at h5
  exact h5
def barS (s : Scr) : Scr := ⟨s.t, s.m, s.ps, barL s.pl, s.dr⟩
def BarSPost (s : Scr) (w : World) (r : Ending) (w' : World) : Prop := ∃ vp vl vd qs, r = .returned (scrV vp vl vd (barS s)) ∧ ScrC w.heap.size w' vp vl vd qs (barS s) ∧ Below w.heap.size w w'
theorem bare_end {s : Scr} {w V : World} {vp vl vd : Value} {qs : List Pr} {A : Array Value} {tmps : Array Value} (hc : Two w V A (scrC vp vl vd (barS s)))
    (ht : tmps.getD 2 undef = .pointer (some ⟨w.heap.size + 1, 0, none⟩)) (hs : ScrC w.heap.size V vp vl vd qs (barS s)) :
    bodyPost Try.prog Try.f18 (BarSPost s w) Exit.ret { tmps := tmps, defers := [] } V := by
  have ht' : tmps[2]?.getD undef = .pointer (some ⟨w.heap.size + 1, 0, none⟩) := by simpa using ht
  obtain ⟨z0, z1, z2, z3, z4⟩ := sc_cells hc.res
  refine bodyPost_ret (v := scrV vp vl vd (barS s)) ?_ rfl ⟨vp, vl, vd, qs, rfl, hs, hc.bel⟩
  simp [results, Try.results18, ht', asAddr, go_sem, z0, z1, z2, z3, z4, scrV, scrC]
theorem ScrC.bared {base : Nat} {w w' : World} {vp vl vd v' : Value} {qs : List Pr} {s : Scr} (h : ScrC base w vp vl vd qs s) (hr : w'.ownsRow base 3 1 v' (barL s.pl).length (ints (barL s.pl))) (hg : w.grownBy w' vl.ownBlock) (ho : v'.ownBlock = vl.ownBlock) : ScrC base w' vp v' vd qs (barS s) :=
  ⟨h.p.keep hg (othB_row h.l (by decide)), h.eq, hr, h.d.kept hg h.ne, by rw [ho]; exact h.ne⟩
theorem Two.grown {w0 w w' : World} {A B : Array Value} {base : Nat} {v : Value} {n : Nat} {us : List Value} (h : Two w0 w A B) (hr : w.ownsRow base 3 1 v n us) (hb : w0.heap.size ≤ base) (hg : w.grownBy w' v.ownBlock) : Two w0 w' A B := by
  have o1 : OthB w v.ownBlock [25] := othB_row hr (by decide)
  exact ⟨(hg.block _ (lt_of_heap h.box) (o1.ne (by simp) h.box)).trans h.box, (hg.block _ (lt_of_heap h.res) (o1.ne (by simp) h.res)).trans h.res, h.bel.grown hg h.bel.size (fun k hk => Nat.le_trans hb (hr.lt k hk).1)⟩
set_option maxHeartbeats 2000000 in
theorem bareS_any (vp vl vd : Value) (s : Scr) (w : World) (h : ScrAt w vp vl vd s) (hN : SzS s) : Calls Try.prog 18 #[scrV vp vl vd s] w (BarSPost s w) := by
  obtain ⟨ap, cp, rfl⟩ := h.p.shape
  obtain ⟨al, cl, rfl⟩ := slI_shape h.l
  obtain ⟨ad, cd, rfl⟩ := slI_shape h.d
  have T0 := Lib.hid (Two.new w (scrC (.slice ap s.ps.length cp) (.slice al s.pl.length cl) (.slice ad s.dr.length cd) s) (scrC (.slice none 0 0) (.slice none 0 0) (.slice none 0 0) zeroScr))
  have CP := Lib.hid (copy_any _ _ _ s _ (h.below (Nat.le_refl _) T0.out.bel) hN)
  have HL := Lib.hid hN.l
  clear h hN
  unfold CopyPost at CP
  obtain ⟨t, m, ps, pl, dr⟩ := s
  unfold scrV at CP ⊢
  unfold scrC at T0 CP ⊢
  dsimp only [zeroScr] at T0 CP HL ⊢
  go_enter Try.func18, Try.ntmps18
  go_wp2_with fail
  refine CP.out.mono ?_
  rintro r w1 ⟨vp, vl, vd, qs, rfl, hs, hB⟩
  have T1 := Lib.hid (T0.out.below hB)
  have C1 := Lib.hid (hs.low (base' := w.heap.size) T0.out.bel.size)
  obtain ⟨a1, c1, rfl⟩ := owns_slice hs.p.row
  obtain ⟨a2, c2, rfl⟩ := owns_slice hs.l
  obtain ⟨a3, c3, rfl⟩ := owns_slice hs.d
  dsimp only at C1
  clear hs hB CP T0
  obtain ⟨z0, z1, z2, z3, z4⟩ := sc_cells (s := ⟨t, m, [], [], []⟩) T1.out.box
  have zf : ∀ o, World.frozen? w1 ⟨w.heap.size, o, none⟩ = false := fun o => frozen_of_row _ _ o _ _ T1.out.box
  go_upto_region 2 with fail
  obtain ⟨wa, hwa⟩ : ∃ x, (((((w1.setCell ⟨w.heap.size, 0, none⟩ (.int .i64 t)).setCell ⟨w.heap.size, 1, none⟩ (.int .i64 m)).setCell ⟨w.heap.size, 2, none⟩ (.slice a1 qs.length c1)).setCell ⟨w.heap.size, 3, none⟩ (.slice a2 pl.length c2)).setCell ⟨w.heap.size, 4, none⟩ (.slice a3 dr.length c3)) = x := ⟨_, rfl⟩
  obtain ⟨e1, e2⟩ := Two.wholeB (s := ⟨t, m, ps, pl, dr⟩) (s0 := ⟨t, m, ps, pl, dr⟩) T1.out hwa
  have C2 := Lib.hid (C1.out.keep e2 T1.out.box)
  have T2 := Lib.hid e1
  rw [hwa]
  clear hwa e1 e2 T1 C1 z0 z1 z2 z3 z4 zf
  have DL := Lib.hid (del_any w.heap.size (.slice a2 pl.length c2) pl wa C2.out.l HL.out)
  unfold BarePost at DL
  obtain ⟨z0, z1, z2, z3, z4⟩ := sc_cells T2.out.box
  dsimp only at z0 z1 z2 z3 z4
  go_wp2_with fail
  refine DL.out.mono ?_
  rintro r w2 ⟨v', rfl, hown, hg, ho⟩
  have T3 := Lib.hid (T2.out.grown C2.out.l (Nat.le_refl _) hg)
  have C3 := Lib.hid (C2.out.bared hown hg ho)
  obtain ⟨a4, c4, rfl⟩ := owns_slice hown
  clear hown hg ho DL C2 T2 z0 z1 z2 z3 z4
  obtain ⟨z0, z1, z2, z3, z4⟩ := sc_cells T3.out.box
  dsimp only at z0 z1 z2 z3 z4
  have zf : ∀ o, World.frozen? w2 ⟨w.heap.size, o, none⟩ = false := fun o => frozen_of_row _ _ o _ _ T3.out.box
  go_upto_region 3 with fail
  obtain ⟨wb, hwb⟩ : ∃ x, w2.setCell ⟨w.heap.size, 3, none⟩ (.slice a4 (barL pl).length c4) = x := ⟨_, rfl⟩
  have T4 := T3.out.set 3 (.slice a4 (barL pl).length c4)
  rw [hwb] at T4
  have T5 := Lib.hid (show Two w wb (scrC (.slice a1 qs.length c1) (.slice a4 (barL pl).length c4) (.slice a3 dr.length c3) ⟨t, m, ps, barL pl, dr⟩) _ from T4.1)
  have C5 := Lib.hid (C3.out.keep T4.2 T3.out.box)
  rw [hwb]
  clear hwb T4 T3 C3 z0 z1 z2 z3 z4 zf
  obtain ⟨z0, z1, z2, z3, z4⟩ := sc_cells T5.out.box
  dsimp only at z0 z1 z2 z3 z4
  obtain ⟨y0, y1, y2, y3, y4⟩ := sc_cells (s := ⟨0, 0, [], [], []⟩) T5.out.res
  have yf : ∀ o, World.frozen? wb ⟨w.heap.size + 1, o, none⟩ = false := fun o => frozen_of_row _ _ o _ _ T5.out.res
  go_wp2_with fail
  obtain ⟨V, hV⟩ : ∃ V, (((((wb.setCell ⟨w.heap.size + 1, 0, none⟩ (.int .i64 t)).setCell ⟨w.heap.size + 1, 1, none⟩ (.int .i64 m)).setCell ⟨w.heap.size + 1, 2, none⟩ (.slice a1 qs.length c1)).setCell ⟨w.heap.size + 1, 3, none⟩ (.slice a4 (barL pl).length c4)).setCell ⟨w.heap.size + 1, 4, none⟩ (.slice a3 dr.length c3)) = V := ⟨_, rfl⟩
  obtain ⟨e1, e2⟩ := Two.whole (s := barS ⟨t, m, ps, pl, dr⟩) (s0 := zeroScr) T5.out hV
  rw [hV]
  exact bare_end e1 rfl (C5.out.keep e2 T5.out.res)

/-! ### The reference's Bare -/
theorem barL_snoc {l : List Int} {k : Nat} (hk : k < l.length) : barL (l.take (k + 1)) = barL (l.take k) ++ (if l.getD k 0 = -1 then [] else [l.getD k 0]) := by
  unfold barL
  rw [List.take_add_one, List.filter_append, List.getD_eq_getElem?_getD, List.getElem?_eq_getElem hk]
  congr 1
  simp only [Option.toList_some, Option.getD_some, List.filter_cons, List.filter_nil]
  by_cases h : l[k] = -1
  · simp [h]
  · simp [h]
def RBarePost (l : List Int) (w : World) (r : Ending) (w' : World) : Prop := ∃ v', r = .returned v' ∧ w'.ownsRow w.heap.size 3 1 v' (barL l).length (ints (barL l)) ∧ Below w.heap.size w w'
set_option maxHeartbeats 1000000 in
theorem rbare_any (v : Value) (l : List Int) (w : World) (h : SlI w v l) (hN : l.length ≤ 10000) :
    Calls Try.prog 20 #[v] w (RBarePost l w) := by
  obtain ⟨ao, cap, rfl⟩ := slI_shape h
  obtain ⟨n, hn⟩ : ∃ n, l.length = n := ⟨_, rfl⟩
  rw [hn] at h hN ⊢
  have H := Lib.hid h
  have HN := Lib.hid hn
  clear h hn
  go_enter Try.func20, Try.ntmps20
  go_wp2_with fail
  go_loopw [8, 3] (fun i z wr => ∃ (k : Nat) (ys : List Int), k ≤ n ∧ i = .int .i64 k ∧ ys = barL (l.take k) ∧ ys.length ≤ k ∧ wr.ownsRow w.heap.size 3 1 z ys.length (ints ys) ∧ Below w.heap.size w wr) (fun i _ _ => n - (intOf i).toNat)
  case atStart => exact ⟨0, [], by omega, rfl, rfl, by simp, World.ownsRow_nil _ _ _ _, Below.refl _ _⟩
  case round =>
    obtain ⟨k, ys, hk, rfl, hys, hyk, hrow, hb⟩ := hrel
    obtain ⟨az, cz, rfl⟩ := owns_slice hrow
    have HB := Lib.hid hb
    have ROW := Lib.hid hrow
    have HY := Lib.hid hys
    clear hb hrow hys
    by_cases hlt : k < n
    · have hlt' : (k : Int) < (n : Int) := by omega
      obtain ⟨b', o', rfl, c0⟩ := slI_at (slI_below H.out (Nat.le_refl _) HB.out) k (by have := HN.out; omega)
      have SN := Lib.hid (barL_snoc (l := l) (k := k) (by have := HN.out; omega))
      obtain ⟨x, hx⟩ : ∃ x, l.getD k 0 = x := ⟨_, rfl⟩
      rw [hx] at c0 SN
      clear hx
      by_cases hx : x = -1
      · have h1 : (x != -1) = false := by simp [hx]
        have h2 : (x == -1) = true := by simp [hx]
        have SN2 := Lib.hid (show barL (l.take (k + 1)) = ys from by rw [SN.out, if_pos hx, List.append_nil, HY.out])
        clear hx
        go_wp2_with fail
        go_roundw
        case rel => exact ⟨k + 1, ys, by omega, by go_num, SN2.out.symm, by omega, ROW.out, HB.out⟩
        case measure => simp [intOf] <;> omega
      · have h1 : (x != -1) = true := by simpa using hx
        have h2 : (x == -1) = false := beq_eq_false_iff_ne.2 hx
        have SN2 := Lib.hid (show barL (l.take (k + 1)) = ys ++ [x] from by rw [SN.out, if_neg hx, HY.out])
        have SZ := HB.out.size
        clear hx
        go_wp2_with (at_builtin; refine wpList_append_ints rfl _ _ rfl w.heap.size (.slice az ys.length cz) ys.length _ rfl (show World.ownsRow _ _ _ _ _ _ _ from ROW.out.alloc _) wr.heap.size 1 1 [x] rfl rfl (heap_alloc_new _ _) (by omega) (by omega) (by simp; omega) ?_)
        intro g7 cap7 w7 hown hgr
        have B7 := Lib.hid (show Below w.heap.size w w7 from (HB.out.alloc HB.out.size (.cells #[.int .i64 x] 3)).grown hgr (by simp; omega) (fun k hk => (ROW.out.lt k hk).1))
        have O7 := Lib.hid hown
        clear hown hgr c0
        go_wp2_with fail
        go_roundw
        case rel => exact ⟨k + 1, ys ++ [x], by omega, by go_num, SN2.out.symm, by simp; omega, by rw [List.length_append, List.length_singleton, ints_append]; exact O7.out, B7.out⟩
        case measure => simp [intOf] <;> omega
    · obtain rfl : k = n := by omega
      have T := Lib.hid (show l.take k = l from List.take_of_length_le (by have := HN.out; omega))
      have HY2 := Lib.hid (show ys = barL l from by rw [HY.out, T.out])
      go_wp2_with fail
      go_ret
      exact ⟨_, rfl, by rw [← HY2.out]; exact ROW.out, HB.out⟩
end Go.Proofs.Ytpefjcmaggimhaa

