
/-
  The walk of SheetCopies.
-/
import Derived.Test.YtpefjcmaggimhaaLaw5e
namespace Go.Proofs.Ytpefjcmaggimhaa
open Go.RowKit
set_option linter.unusedVariables false
set_option linter.unusedSimpArgs false
set_option maxRecDepth 100000

/-! ### What is scribbled over: numbers in blocks from lo to hi -/
structure Wr (lo hi : Nat) (w w' : World) : Prop where
  os : w'.os = w.os
  tape : w'.tape = w.tape
  output : w'.output = w.output
  size : w'.heap.size = w.heap.size
  out : ∀ g, ¬ (lo ≤ g ∧ g < hi) → w'.heap[g]? = w.heap[g]?
  ty : ∀ (g : Nat) (cur : Array Value) (t : TypeId), w.heap[g]? = some (.cells cur t (0, 0)) → ∃ cur', w'.heap[g]? = some (.cells cur' t (0, 0)) ∧ cur'.size = cur.size ∧ (t = 45 → cur' = cur) ∧ (t = 48 → ∀ i, i % 5 = 3 → cur'[i]? = cur[i]?)
theorem Wr.refl (lo hi : Nat) (w : World) : Wr lo hi w w := ⟨rfl, rfl, rfl, rfl, fun _ _ => rfl, fun g cur t h => ⟨cur, h, rfl, fun _ => rfl, fun _ _ _ => rfl⟩⟩
theorem Wr.set {lo hi : Nat} {w0 w : World} (h : Wr lo hi w0 w) {g o : Nat} {cur : Array Value} {t : TypeId} (u : Value) (hg : w0.heap[g]? = some (.cells cur t (0, 0))) (hlo : lo ≤ g) (hhi : g < hi) (ht : t ≠ 45) (ho : t = 48 → o % 5 ≠ 3) : Wr lo hi w0 (w.setCell ⟨g, o, none⟩ u) := by
  refine ⟨h.os, h.tape, h.output, by rw [← h.size]; simp, fun k hk => ?_, fun k c t' hk => ?_⟩
  · rw [heap_setCell_other _ _ _ _ (by show k ≠ g; intro e; subst e; exact hk ⟨hlo, hhi⟩)]
    exact h.out k hk
  · obtain ⟨c', h1, h2, h3, h4⟩ := h.ty k c t' hk
    by_cases hkg : k = g
    · subst hkg
      rw [hg] at hk
      have := Option.some.inj hk
      injection this with e1 e2 e3
      subst e1; subst e2
      refine ⟨c'.setIfInBounds o u, heap_setCell_same _ _ _ _ _ _ h1, by simpa using h2, fun e => absurd e ht, fun e i hi => ?_⟩
      rw [Array.getElem?_setIfInBounds, if_neg (by intro e2; subst e2; exact ho e hi)]
      exact h4 e i hi
    · exact ⟨c', by rw [heap_setCell_other _ _ _ _ (by show k ≠ g; exact hkg)]; exact h1, h2, h3, h4⟩
theorem Wr.below {lo hi : Nat} {w0 w : World} (h : Wr lo hi w0 w) : Below lo w0 w :=
  ⟨h.os, h.tape, h.output, Nat.le_of_eq h.size.symm, fun k hk => h.out k (by omega)⟩
/-- A row of one's own, where its block has not turned. -/
theorem own_block {w w' : World} {base : Nat} {e : TypeId} {k : Nat} {v : Value} {n : Nat} {us : List Value} (h : w.ownsRow base e k v n us) (hb : ∀ g, base ≤ g → g < w.heap.size → w'.heap[g]? = w.heap[g]?) : w'.ownsRow base e k v n us := by
  refine ⟨h.1, ?_⟩
  rcases h.2 with h2 | ⟨g, cap, cur, rfl, hbg, hg, h3⟩
  · exact .inl h2
  · exact .inr ⟨g, cap, cur, rfl, hbg, (hb g hbg (lt_of_heap hg)).trans hg, h3⟩
theorem ScrC.block {base : Nat} {w w' : World} {vp vl vd : Value} {qs : List Pr} {s : Scr} (h : ScrC base w vp vl vd qs s) (hb : ∀ g, base ≤ g → g < w.heap.size → w'.heap[g]? = w.heap[g]?) : ScrC base w' vp vl vd qs s :=
  ⟨⟨own_block h.p.row hb, fun q hq => ⟨own_block (h.p.pr q hq).row hb, fun x hx => own_block ((h.p.pr q hq).cs x hx) hb⟩⟩, h.eq, own_block h.l hb, own_block h.d hb, h.ne⟩
/-- One place of a row of one's own, in a world that was scribbled over. -/
structure Spot (lo hi : Nat) (w0 w : World) (g o : Nat) : Prop where
  old : ∃ u, w.cell? ⟨g, o, none⟩ = some u
  fz : w.frozen? ⟨g, o, none⟩ = false
theorem own_spot {lo : Nat} {wc wz w : World} {e : TypeId} {k : Nat} {v : Value} {n : Nat} {us : List Value} (h : wc.ownsRow lo e k v n us) (hz : Below wc.heap.size wc wz) (hW : Wr lo wc.heap.size wz w) (o : Nat) (ho : o < n * k) :
    ∃ g cap cur, v = .slice (some ⟨g, 0, none⟩) n cap ∧ lo ≤ g ∧ g < wc.heap.size ∧ wz.heap[g]? = some (.cells cur e (0, 0)) ∧ cur[o]? = us[o]? ∧ (∃ u, w.cell? ⟨g, o, none⟩ = some u) ∧ w.frozen? ⟨g, o, none⟩ = false ∧
      (e = 45 → w.cell? ⟨g, o, none⟩ = us[o]?) ∧ (e = 48 → o % 5 = 3 → w.cell? ⟨g, o, none⟩ = us[o]?) := by
  rcases h.2 with ⟨rfl, h0⟩ | ⟨g, cap, cur, rfl, hbg, hg, hnc, hcm, hcs, htake⟩
  · subst h0; omega
  · have hgz := (hz.block g (lt_of_heap hg)).trans hg
    obtain ⟨c', h1, h2, h3, h4⟩ := hW.ty g cur e hgz
    have hoc : o < cur.size := by
      rw [hcs]
      exact Nat.lt_of_lt_of_le ho (Nat.mul_le_mul_right _ hnc)
    have hus : cur[o]? = us[o]? := by
      rw [← htake, List.getElem?_take, if_pos ho]
      simp
    refine ⟨g, cap, cur, rfl, hbg, lt_of_heap hg, hgz, hus, ⟨c'[o]'(by omega), ?_⟩, ?_, fun e1 => ?_, fun e1 e2 => ?_⟩
    · simp only [World.cell?, h1]
      simp [show o < c'.size by omega]
    · simp [World.frozen?, h1]
    · have e3 := h3 e1
      subst e3
      simp only [World.cell?, h1]
      rw [← hus]
      rfl
    · have e3 := h4 e1 o e2
      simp only [World.cell?, h1]
      rw [← hus, ← e3]
      rfl
/-- The programs' row, read and written. -/
theorem rd_pr {lo : Nat} {wc wz w : World} {vp : Value} {qs : List Pr} (h : PrsC lo wc vp qs) (hz : Below wc.heap.size wc wz) (hW : Wr lo wc.heap.size wz w) (i : Nat) (hi : i < qs.length) :
    ∃ g cap, vp = .slice (some ⟨g, 0, none⟩) qs.length cap ∧ w.cell? ⟨g, i, none⟩ = some (qs[i]).2 := by
  obtain ⟨g, cap, cur, e1, e2, e3, e4, e5, e6, e7, e8, e9⟩ := own_spot h.row hz hW i (by omega)
  exact ⟨g, cap, e1, by rw [e8 rfl]; simp [hi]⟩
theorem rd_op {lo : Nat} {wc wz w : World} {v : Value} {es : List (Opn × Value)} (h : OpsC lo wc v es) (hz : Below wc.heap.size wc wz) (hW : Wr lo wc.heap.size wz w) (k : Nat) (hk : k < es.length) :
    ∃ g cap, v = .slice (some ⟨g, 0, none⟩) es.length cap ∧ w.cell? ⟨g, k * 5 + 3, none⟩ = some (es[k]).2 ∧ (∃ u, w.cell? ⟨g, k * 5, none⟩ = some u) ∧ w.frozen? ⟨g, k * 5, none⟩ = false ∧ Wr lo wc.heap.size wz (w.setCell ⟨g, k * 5, none⟩ (.int .i64 (-7))) := by
  obtain ⟨g, cap, cur, e1, e2, e3, e4, e5, e6, e7, e8, e9⟩ := own_spot h.row hz hW (k * 5 + 3) (by omega)
  obtain ⟨g', cap', cur', f1, f2, f3, f4, f5, f6, f7, f8, f9⟩ := own_spot h.row hz hW (k * 5) (by omega)
  rw [e1] at f1
  injection f1 with f1
  injection f1 with f1
  injection f1 with f1
  subst f1
  refine ⟨g, cap, e1, ?_, f6, f7, hW.set _ f4 f2 f3 (by decide) (fun _ => by omega)⟩
  rw [e9 rfl (by omega), opCells_at es k hk 3 (by omega)]
  simp [opL, opC, List.getD, hk]
theorem rd_cs {lo : Nat} {wc wz w : World} {v : Value} {cs : List Cs} (h : wc.ownsRow lo 50 3 v cs.length (csCells cs)) (hz : Below wc.heap.size wc wz) (hW : Wr lo wc.heap.size wz w) (j : Nat) (hj : j < cs.length) :
    ∃ g cap, v = .slice (some ⟨g, 0, none⟩) cs.length cap ∧ (∃ u, w.cell? ⟨g, j * 3 + 1, none⟩ = some u) ∧ w.frozen? ⟨g, j * 3 + 1, none⟩ = false ∧ Wr lo wc.heap.size wz (w.setCell ⟨g, j * 3 + 1, none⟩ (.int .i64 (-7))) := by
  obtain ⟨g, cap, cur, e1, e2, e3, e4, e5, e6, e7, e8, e9⟩ := own_spot h hz hW (j * 3 + 1) (by omega)
  exact ⟨g, cap, e1, e6, e7, hW.set _ e4 e2 e3 (by decide) (fun e => absurd e (by decide))⟩
theorem rd_int {lo : Nat} {wc wz w : World} {v : Value} {l : List Int} (h : wc.ownsRow lo 3 1 v l.length (ints l)) (hz : Below wc.heap.size wc wz) (hW : Wr lo wc.heap.size wz w) (j : Nat) (hj : j < l.length) :
    ∃ g cap, v = .slice (some ⟨g, 0, none⟩) l.length cap ∧ (∃ u, w.cell? ⟨g, j, none⟩ = some u) ∧ w.frozen? ⟨g, j, none⟩ = false ∧ Wr lo wc.heap.size wz (w.setCell ⟨g, j, none⟩ (.int .i64 (-7))) := by
  obtain ⟨g, cap, cur, e1, e2, e3, e4, e5, e6, e7, e8, e9⟩ := own_spot h hz hW j (by omega)
  exact ⟨g, cap, e1, e6, e7, hW.set _ e4 e2 e3 (by decide) (fun e => absurd e (by decide))⟩
/-! ### The walk -/
/-- What stands still while a copy is scribbled over. -/
structure Still (w0 wc wd w : World) (lo gc gd : Nat) (A C D : Array Value) : Prop where
  one : w.heap[w0.heap.size]? = some (.cells A 25 (0, 0))
  bc : w.heap[gc]? = some (.cells C 25 (0, 0))
  bd : w.heap[gd]? = some (.cells D 25 (0, 0))
  bel : Below w0.heap.size w0 w
  zc : Below wc.heap.size wc w
  zd : Below wd.heap.size wd w
  low : w0.heap.size < lo
  le : lo ≤ wc.heap.size
  hc : wc.heap.size ≤ gc
  hd : wc.heap.size ≤ gd
  hcd : wc.heap.size ≤ wd.heap.size
theorem Still.below {w0 wc wd w w' : World} {lo gc gd : Nat} {A C D : Array Value} (h : Still w0 wc wd w lo gc gd A C D) (hB : Below w.heap.size w w') : Still w0 wc wd w' lo gc gd A C D :=
  ⟨(hB.block _ (lt_of_heap h.one)).trans h.one, (hB.block _ (lt_of_heap h.bc)).trans h.bc, (hB.block _ (lt_of_heap h.bd)).trans h.bd, h.bel.trans (hB.mono h.bel.size), h.zc.trans (hB.mono h.zc.size), h.zd.trans (hB.mono h.zd.size), h.low, h.le, h.hc, h.hd, h.hcd⟩
/-- A store into a block that came later than all of these. -/
theorem Still.set {w0 wc wd w : World} {lo gc gd : Nat} {A C D : Array Value} (h : Still w0 wc wd w lo gc gd A C D) {g o : Nat} (u : Value) (h1 : wd.heap.size ≤ g) (h2 : gc ≠ g) (h3 : gd ≠ g) : Still w0 wc wd (w.setCell ⟨g, o, none⟩ u) lo gc gd A C D := by
  have hl := h.low
  have hle := h.le
  have hcd := h.hcd
  exact ⟨(heap_setCell_other _ _ _ _ (by show w0.heap.size ≠ g; omega)).trans h.one, (heap_setCell_other _ _ _ _ (by show gc ≠ g; exact h2)).trans h.bc, (heap_setCell_other _ _ _ _ (by show gd ≠ g; exact h3)).trans h.bd, h.bel.setCell (by show w0.heap.size ≤ g; omega) _, h.zc.setCell (by show wc.heap.size ≤ g; omega) _, h.zd.setCell h1 _, h.low, h.le, h.hc, h.hd, h.hcd⟩
theorem Still.wr {w0 wc wd w w' : World} {lo gc gd : Nat} {A C D : Array Value} (h : Still w0 wc wd w lo gc gd A C D) (hW : Wr lo wc.heap.size w w') :
    w'.heap[w0.heap.size]? = some (.cells A 25 (0, 0)) ∧ w'.heap[gc]? = some (.cells C 25 (0, 0)) ∧ w'.heap[gd]? = some (.cells D 25 (0, 0)) ∧ Below w0.heap.size w0 w' := by
  have hl := h.low
  have hc := h.hc
  have hd := h.hd
  exact ⟨(hW.out _ (by omega)).trans h.one, (hW.out _ (by omega)).trans h.bc, (hW.out _ (by omega)).trans h.bd, h.bel.trans (hW.below.mono (by omega))⟩
theorem pos_of_lt {n : Nat} {k : Nat} (h : k < n) : 0 < n := by omega
set_option maxHeartbeats 16000000 in
theorem scopies_law (vp vl vd : Value) (s : Scr) (w : World) (h : ScrAt w vp vl vd s) (hC : CsB bigC s.ps) : Calls Try.prog 6 #[scrV vp vl vd s] w (LawPost w) := by
  have H := Lib.hid h
  have LG := Lib.hid (fun W (hW : Below w.heap.size w W) => large_any _ _ _ s W (H.out.below (Nat.le_refl _) hW))
  have CP := Lib.hid (fun W (hW : Below w.heap.size w W) (hs : Small s) (hc : CsB 3000 s.ps) => copy_any _ _ _ s W (H.out.below (Nat.le_refl _) hW) (hs.szS hc))
  have BA := Lib.hid (fun W (hW : Below w.heap.size w W) (hs : Small s) (hc : CsB 3000 s.ps) => bareS_any _ _ _ s W (H.out.below (Nat.le_refl _) hW) (hs.szS hc))
  have SC := Lib.hid (fun W ap al ad (ha : ScrAt W ap al ad s) (hW : Below w.heap.size w W) (hs : Small s) (hc : CsB 3000 s.ps) => script_any ap al ad _ _ _ s s W ha (H.out.below (Nat.le_refl _) hW) hs.scrN hs.scrN (csB_csN hc (by decide)))
  have RB := Lib.hid (fun W (hW : Below w.heap.size w W) (hs : Small s) => rbare_any _ s.pl W (H.out.below (Nat.le_refl _) hW).l (Nat.le_trans hs.l (by decide)))
  have IN := Lib.hid (fun W a b (ha : SlI W a (barL s.pl)) (hb : SlI W b (barL s.pl)) (hs : Small s) => ints_any a b (barL s.pl) (barL s.pl) W ha hb (Nat.le_trans (Nat.le_trans (barL_len _) hs.l) (by decide)) (Nat.le_trans (Nat.le_trans (barL_len _) hs.l) (by decide)))
  have HC := Lib.hid hC
  obtain ⟨ap, cp, rfl⟩ := h.p.shape
  obtain ⟨al, cl, rfl⟩ := slI_shape h.l
  obtain ⟨ad, cd, rfl⟩ := slI_shape h.d
  clear h hC
  have B0 := Lib.hid (Box1.new w (scrC (.slice ap s.ps.length cp) (.slice al s.pl.length cl) (.slice ad s.dr.length cd) s))
  unfold LargePost at LG
  unfold CopyPost at CP
  unfold BarSPost at BA
  unfold RBarePost at RB
  obtain ⟨t, m, ps, pl, dr⟩ := s
  unfold scrV at LG CP BA SC ⊢
  unfold scrC at B0 LG CP BA SC ⊢
  dsimp only [barS] at B0 LG CP BA SC RB IN HC ⊢
  go_enter Try.func6, Try.ntmps6
  go_wp2_with fail
  refine (LG.out _ B0.out.bel).mono ?_
  rintro r w1 ⟨bb, rfl, hsm, hB1⟩
  have B1 := Lib.hid (B0.out.below hB1)
  have SM := Lib.hid hsm
  clear hB1 hsm B0 LG
  cases bb with
  | true =>
    go_wp2_with fail
    refine (exits_any _).mono ?_
    rintro r w2 ⟨rfl, hB2⟩
    have B2 := Lib.hid (B1.out.bel.trans (hB2.mono B1.out.bel.size))
    clear hB2
    go_wp2_with fail
    go_ret
    exact ⟨rfl, B2.out⟩
  | false =>
    have S1 := Lib.hid (SM.out rfl).1
    have C1 := Lib.hid ((SM.out rfl).2 HC.out)
    clear SM HC
    -- the first copy
    obtain ⟨z0, z1, z2, z3, z4⟩ := five_cells B1.out.box
    go_wp2_with fail
    refine (CP.out _ B1.out.bel S1.out C1.out).mono ?_
    rintro r wc ⟨cvp, cvl, cvd, qs, rfl, hsc, hBc⟩
    have hqs : qs.length = ps.length := by rw [← List.length_map (f := Pr.ops), hsc.eq]
    obtain ⟨a1, c1, e1⟩ := owns_slice hsc.p.row
    obtain ⟨a2, c2, e2⟩ := owns_slice hsc.l
    obtain ⟨a3, c3, e3⟩ := owns_slice hsc.d
    subst e1; subst e2; subst e3
    dsimp only at hsc
    obtain ⟨nq, hnq⟩ : ∃ n, qs.length = n := ⟨_, rfl⟩
    rw [hnq] at hsc ⊢
    have NQ := Lib.hid hnq
    have CC := Lib.hid hsc
    have lo0 := lt_of_heap B1.out.box
    have Bc := Lib.hid (B1.out.below hBc)
    have CZ := Lib.hid hBc.size
    obtain ⟨lo, hlo⟩ : ∃ x, w1.heap.size = x := ⟨_, rfl⟩
    rw [hlo] at CC CZ lo0
    have nb1 := below1 wc (.cells #[.int .i64 t, .int .i64 m, .slice a1 nq c1, .slice a2 pl.length c2, .slice a3 dr.length c3] 25)
    have D1 := Lib.hid (Bc.out.below nb1)
    have E1 := Lib.hid (heap_alloc_new wc (.cells #[.int .i64 t, .int .i64 m, .slice a1 nq c1, .slice a2 pl.length c2, .slice a3 dr.length c3] 25))
    have Z1 := Lib.hid nb1
    clear hsc hBc hqs hnq B1 z0 z1 z2 z3 z4 hlo nb1
    -- the second one
    obtain ⟨z0, z1, z2, z3, z4⟩ := five_cells D1.out.box
    go_wp2_with fail
    obtain ⟨W2, hW2⟩ : ∃ x, wc.alloc (.cells #[.int .i64 t, .int .i64 m, .slice a1 nq c1, .slice a2 pl.length c2, .slice a3 dr.length c3] 25) = x := ⟨_, rfl⟩
    obtain ⟨gc, hgc⟩ : ∃ x, wc.heap.size = x := ⟨_, rfl⟩
    have GC := Lib.hid hgc
    have HW2 := Lib.hid hW2
    rw [hW2] at D1 E1 Z1 ⊢
    rw [hgc] at E1 ⊢
    clear hW2 z0 z1 z2 z3 z4 hgc
    refine (CP.out _ D1.out.bel S1.out C1.out).mono ?_
    rintro r wd ⟨dvp, dvl, dvd, rs, rfl, hsd, hBd⟩
    have Dat := hsd.at
    obtain ⟨a4, c4, e1⟩ := Dat.p.shape
    obtain ⟨a5, c5, e2⟩ := slI_shape Dat.l
    obtain ⟨a6, c6, e3⟩ := slI_shape Dat.d
    subst e1; subst e2; subst e3
    dsimp only at hsd
    have DD := Lib.hid hsd
    have E2 := Lib.hid ((hBd.block _ (lt_of_heap E1.out)).trans E1.out)
    have D2 := Lib.hid (D1.out.below hBd)
    have Z2 := Lib.hid (Z1.out.trans (hBd.mono Z1.out.size))
    have Y2 := Lib.hid hBd.size
    clear hsd hBd Dat D1 E1
    have nb2 := below1 wd (.cells #[.int .i64 t, .int .i64 m, .slice a4 ps.length c4, .slice a5 pl.length c5, .slice a6 dr.length c6] 25)
    have D3 := Lib.hid (D2.out.below nb2)
    have E3 := Lib.hid ((nb2.block _ (lt_of_heap E2.out)).trans E2.out)
    have F3 := Lib.hid (heap_alloc_new wd (.cells #[.int .i64 t, .int .i64 m, .slice a4 ps.length c4, .slice a5 pl.length c5, .slice a6 dr.length c6] 25))
    have Z3 := Lib.hid (Z2.out.trans (nb2.mono Z2.out.size))
    have X3 := Lib.hid nb2
    clear nb2
    obtain ⟨z0, z1, z2, z3, z4⟩ := five_cells D3.out.box
    go_wp2_with fail
    obtain ⟨W3, hW3⟩ : ∃ x, wd.alloc (.cells #[.int .i64 t, .int .i64 m, .slice a4 ps.length c4, .slice a5 pl.length c5, .slice a6 dr.length c6] 25) = x := ⟨_, rfl⟩
    obtain ⟨gd, hgd⟩ : ∃ x, wd.heap.size = x := ⟨_, rfl⟩
    have GD := Lib.hid hgd
    rw [hW3] at D3 E3 F3 Z3 X3 ⊢
    rw [hgd] at F3 ⊢
    clear hW3 z0 z1 z2 z3 z4 hgd D2 E2
    have ST3 := Lib.hid (show Still w wc wd W3 lo gc gd _ _ _ from ⟨D3.out.box, E3.out, F3.out, D3.out.bel, Z3.out, X3.out, by omega, CZ.out, by rw [GC.out]; exact Nat.le_refl _, by rw [← GD.out]; exact Z2.out.size, Z2.out.size⟩)
    have GCD := Lib.hid (show gc < gd from by rw [← GC.out, ← GD.out]; have h1 := Y2.out; have h2 : W2.heap.size = wc.heap.size + 1 := (by rw [← HW2.out]; exact World.size_alloc _ _); omega)
    have Z2S := Lib.hid (show wc.heap.size ≤ W2.heap.size from Z1.out.size)
    clear D3 E3 F3 Z3 X3 Y2 HW2 Z2 Z1 Bc
    -- the bare one
    refine (BA.out _ ST3.out.bel S1.out C1.out).mono ?_
    rintro r wb ⟨bvp, bvl, bvd, ts, rfl, hsb, hBb⟩
    have Bat := hsb.at
    obtain ⟨a7, c7, e1⟩ := Bat.p.shape
    obtain ⟨a8, c8, e2⟩ := slI_shape Bat.l
    obtain ⟨a9, c9, e3⟩ := slI_shape Bat.d
    subst e1; subst e2; subst e3
    dsimp only at Bat
    have nb3 := below1 wb (.cells #[.int .i64 t, .int .i64 m, .slice a7 ps.length c7, .slice a8 (barL pl).length c8, .slice a9 dr.length c9] 25)
    have ST4 := Lib.hid ((ST3.out.below hBb).below nb3)
    have BT4 := Lib.hid (Bat.below (Nat.le_refl _) nb3)
    have E4 := Lib.hid (heap_alloc_new wb (.cells #[.int .i64 t, .int .i64 m, .slice a7 ps.length c7, .slice a8 (barL pl).length c8, .slice a9 dr.length c9] 25))
    have GB := Lib.hid (show gd < wb.heap.size ∧ wd.heap.size ≤ wb.heap.size from ⟨Nat.lt_of_lt_of_le (lt_of_heap ST3.out.bd) hBb.size, Nat.le_trans ST3.out.zd.size hBb.size⟩)
    have BAT := Lib.hid Bat
    have ZB4 := Lib.hid nb3
    clear hsb hBb Bat nb3 ST3 BA
    go_wp2_with fail
    obtain ⟨W4, hW4⟩ : ∃ x, wb.alloc (.cells #[.int .i64 t, .int .i64 m, .slice a7 ps.length c7, .slice a8 (barL pl).length c8, .slice a9 dr.length c9] 25) = x := ⟨_, rfl⟩
    obtain ⟨gb, hgb⟩ : ∃ x, wb.heap.size = x := ⟨_, rfl⟩
    rw [hW4] at ST4 BT4 E4 ZB4
    have GBE := Lib.hid hgb
    rw [hgb] at E4 GB
    try rw [hW4]
    try rw [hgb]
    clear hW4 hgb
    have CAT : ∀ W, Below W4.heap.size W4 W → ScrAt W (.slice a1 nq c1) (.slice a2 pl.length c2) (.slice a3 dr.length c3) ⟨t, m, ps, pl, dr⟩ := fun W hW => ((CC.out.at.below (Nat.le_refl _) ST4.out.zc).below (Nat.le_refl _) hW)
    have CATH := Lib.hid CAT
    clear CAT
    obtain ⟨p0, p1, p2, p3, p4⟩ := five_cells ST4.out.one
    obtain ⟨q0, q1, q2, q3, q4⟩ := five_cells ST4.out.bc
    obtain ⟨_, _, _, u3, _⟩ := five_cells E4.out
    go_region_held3 (fun w' => (w'.cell? ⟨gc, 0, none⟩ = some (.int .i64 t) ∧ w'.cell? ⟨gc, 1, none⟩ = some (.int .i64 m) ∧ w'.cell? ⟨gc, 2, none⟩ = some (.slice a1 nq c1) ∧ w'.cell? ⟨gc, 3, none⟩ = some (.slice a2 pl.length c2) ∧ w'.cell? ⟨gc, 4, none⟩ = some (.slice a3 dr.length c3)) ∧ (w'.cell? ⟨w.heap.size, 0, none⟩ = some (.int .i64 t) ∧ w'.cell? ⟨w.heap.size, 1, none⟩ = some (.int .i64 m) ∧ w'.cell? ⟨w.heap.size, 2, none⟩ = some (.slice ap ps.length cp) ∧ w'.cell? ⟨w.heap.size, 3, none⟩ = some (.slice al pl.length cl) ∧ w'.cell? ⟨w.heap.size, 4, none⟩ = some (.slice ad dr.length cd)) ∧ w'.cell? ⟨gb, 3, none⟩ = some (.slice a8 (barL pl).length c8)) (go_keep)
      (first
        | (go_at_call 16; (with_reducible refine (SC.out _ _ _ _ (CATH.out _ (Below.refl _ _).drew) ST4.out.bel.drew S1.out C1.out).mono ?_); rintro r w5 ⟨rfl, hB5⟩; have K5 := Lib.hid (below_drewS hB5); have ST5 := Lib.hid (ST4.out.below K5.out); have E5 := Lib.hid ((K5.out.block _ (lt_of_heap E4.out)).trans E4.out); clear hB5 p0 p1 p2 p3 p4 q0 q1 q2 q3 q4 u3; obtain ⟨p0, p1, p2, p3, p4⟩ := five_cells ST5.out.one; obtain ⟨q0, q1, q2, q3, q4⟩ := five_cells ST5.out.bc; obtain ⟨_, _, _, u3, _⟩ := five_cells E5.out)
        | (go_at_call 20; (with_reducible refine (RB.out _ ST5.out.bel S1.out).mono ?_); rintro r w6 ⟨v6, rfl, ho6, hB6⟩; have K6 := Lib.hid (K5.out.trans (hB6.mono K5.out.size)); have ST6 := Lib.hid (ST5.out.below hB6); have E6 := Lib.hid ((hB6.block _ (lt_of_heap E5.out)).trans E5.out); have O6 := Lib.hid ho6; clear ho6 hB6 p0 p1 p2 p3 p4 q0 q1 q2 q3 q4 u3; obtain ⟨p0, p1, p2, p3, p4⟩ := five_cells ST6.out.one; obtain ⟨q0, q1, q2, q3, q4⟩ := five_cells ST6.out.bc; obtain ⟨_, _, _, u3, _⟩ := five_cells E6.out)
        | (go_at_call 19; (with_reducible refine (IN.out _ _ _ (slI_below BT4.out.l (Nat.le_refl _) K6.out) (SlI.of_owns O6.out) S1.out).mono ?_); rintro r w7 ⟨rfl, n7, rfl⟩; have ST7 := Lib.hid (ST6.out.below (below_drewN (Below.refl _ _) n7)); have E7 := Lib.hid (show (w6.drewN n7).heap[gb]? = _ from E6.out); have ZB7 := Lib.hid ((ZB4.out.trans (K6.out.mono ZB4.out.size)).trans (below_drewN (Below.refl _ _) n7)); clear p0 p1 p2 p3 p4 q0 q1 q2 q3 q4 u3; obtain ⟨p0, p1, p2, p3, p4⟩ := five_cells ST7.out.one; obtain ⟨q0, q1, q2, q3, q4⟩ := five_cells ST7.out.bc; obtain ⟨_, _, _, u3, _⟩ := five_cells E7.out))
    clear CATH K5 K6 O6 ST4 ST5 ST6 E4 E5 E6 BT4 ZB4
    obtain ⟨_, _, _, d3, _⟩ := five_cells ST7.out.bd
    have uf : ∀ o, World.frozen? (w6.drewN n7) ⟨gb, o, none⟩ = false := fun o => frozen_of_row _ _ o _ _ E7.out
    go_upto_region 9 with fail
    obtain ⟨wz, hwz⟩ : ∃ x, (w6.drewN n7).setCell ⟨gb, 3, none⟩ (.slice a5 pl.length c5) = x := ⟨_, rfl⟩
    have STZ := Lib.hid (show Still w wc wd wz lo gc gd #[.int .i64 t, .int .i64 m, .slice ap ps.length cp, .slice al pl.length cl, .slice ad dr.length cd] #[.int .i64 t, .int .i64 m, .slice a1 nq c1, .slice a2 pl.length c2, .slice a3 dr.length c3] #[.int .i64 t, .int .i64 m, .slice a4 ps.length c4, .slice a5 pl.length c5, .slice a6 dr.length c6] from by
      rw [← hwz]
      have h1 := GCD.out
      have h2 := GB.out
      exact ST7.out.set _ (by rw [← GBE.out]; rw [← GBE.out] at h2; exact h2.2) (by omega) (by omega))
    have EZ := Lib.hid (show wz.heap[gb]? = some (.cells #[.int .i64 t, .int .i64 m, .slice a7 ps.length c7, .slice a5 pl.length c5, .slice a9 dr.length c9] 25 (0, 0)) from by
      rw [← hwz, heap_setCell_same _ _ _ _ _ _ E7.out]; rfl)
    have ZBZ := Lib.hid (show Below wb.heap.size wb wz from by
      rw [← hwz]
      exact ZB7.out.setCell (by show wb.heap.size ≤ gb; rw [← GBE.out]; exact Nat.le_refl _) _)
    rw [hwz]
    clear hwz p0 p1 p2 p3 p4 q0 q1 q2 q3 q4 u3 d3 uf ST7 E7 ZB7
    have BZ := Lib.hid (show ScrAt wz (.slice a7 ps.length c7) (.slice a5 pl.length c5) (.slice a9 dr.length c9) ⟨t, m, ps, pl, dr⟩ from ⟨BAT.out.p.below (Nat.le_refl _) ZBZ.out, slI_below DD.out.at.l (Nat.le_refl _) STZ.out.zd, slI_below BAT.out.d (Nat.le_refl _) ZBZ.out⟩)
    obtain ⟨p0, p1, p2, p3, p4⟩ := five_cells STZ.out.one
    obtain ⟨q0, q1, q2, q3, q4⟩ := five_cells EZ.out
    go_wp2_with fail
    refine (SC.out _ _ _ _ BZ.out STZ.out.bel S1.out C1.out).mono ?_
    rintro r wy ⟨rfl, hBy⟩
    have STY := Lib.hid (STZ.out.below hBy)
    clear hBy BZ EZ ZBZ STZ BAT GBE GB GCD p0 p1 p2 p3 p4 q0 q1 q2 q3 q4
    obtain ⟨q0, q1, q2, q3, q4⟩ := five_cells STY.out.bc
    have hnq1 : nq ≤ 20 := by have := S1.out.p; have := NQ.out; have := congrArg List.length CC.out.eq; rw [List.length_map] at this; dsimp only at *; omega
    go_wp2_with fail
    go_loopw [43] (fun i wr => ∃ k : Nat, k ≤ nq ∧ i = .int .i64 k ∧ Wr lo wc.heap.size wy wr) (fun i _ => nq - (intOf i).toNat)
    case atStart => exact ⟨0, by omega, rfl, Wr.refl _ _ _⟩
    case round =>
      obtain ⟨k, hk, rfl, hW⟩ := hrel
      have WR := Lib.hid hW
      clear hW q0 q1 q2 q3 q4
      obtain ⟨q0, q1, q2, q3, q4⟩ := five_cells (STY.out.wr WR.out).2.1
      by_cases hlt : k < nq
      · have hlt' : (k : Int) < (nq : Int) := by omega
        have hkq : k < qs.length := by have := NQ.out; omega
        have CP0 := Lib.hid (show PrsC lo wc (.slice a1 qs.length c1) qs from by have h := CC.out.p; rw [← NQ.out] at h; exact h)
        obtain ⟨g1, k1, e1, r1⟩ := rd_pr CP0.out STY.out.zc WR.out k hkq
        cases e1
        obtain ⟨⟨es, v⟩, hq⟩ : ∃ q, qs[k] = q := ⟨_, rfl⟩
        have OC := Lib.hid (show OpsC lo wc v es from by have := CC.out.p.pr _ (List.getElem_mem hkq); rw [hq] at this; exact this)
        have HQ := Lib.hid hq
        rw [hq] at r1
        dsimp only at r1
        obtain ⟨b1, d1, e2⟩ := owns_slice OC.out.row
        subst e2
        have hes : es.length ≤ 100 := by
          have h1 := S1.out.o k (by have := congrArg List.length CC.out.eq; rw [List.length_map] at this; dsimp only at this ⊢; omega)
          have h2 : (ps.getD k []) = Pr.ops qs[k] := by
            rw [← (show qs.map Pr.ops = ps from CC.out.eq)]
            simp [List.getD, hkq]
          dsimp only at h1
          rw [h2, hq] at h1
          simpa [Pr.ops] using h1
        clear hq
        go_wp2_with fail
        go_loopw [52] (fun i wx => ∃ j : Nat, j ≤ es.length ∧ i = .int .i64 j ∧ Wr lo wc.heap.size wy wx) (fun i _ => es.length - (intOf i).toNat)
        case atStart => exact ⟨0, by omega, rfl, WR.out⟩
        case round =>
          obtain ⟨j, hj, rfl, hWx⟩ := hrel
          have WX := Lib.hid hWx
          clear hWx q0 q1 q2 q3 q4 r1
          obtain ⟨q0, q1, q2, q3, q4⟩ := five_cells (STY.out.wr WX.out).2.1
          obtain ⟨_, _, e3, r1⟩ := rd_pr CP0.out STY.out.zc WX.out k hkq
          cases e3
          rw [HQ.out] at r1
          dsimp only at r1
          by_cases hjt : j < es.length
          · have hjt' : (j : Int) < (es.length : Int) := by omega
            obtain ⟨g2, k2, e4, r2, r3, r4, r5⟩ := rd_op OC.out STY.out.zc WX.out j hjt
            cases e4
            obtain ⟨⟨o, u⟩, ho⟩ : ∃ x, es[j] = x := ⟨_, rfl⟩
            have HO := Lib.hid ho
            have UC := Lib.hid (show wc.ownsRow lo 50 3 u o.cs.length (csCells o.cs) from by have := OC.out.cs _ (List.getElem_mem hjt); rw [ho] at this; exact this)
            rw [ho] at r2
            dsimp only at r2
            obtain ⟨b2, d2, e5⟩ := owns_slice UC.out
            subst e5
            have hcs : o.cs.length ≤ 3000 := by
              have hkp : k < ps.length := by have := congrArg List.length CC.out.eq; rw [List.length_map] at this; dsimp only at this ⊢; omega
              have h2 : (ps.getD k []) = es.map (·.1) := by
                rw [← (show qs.map Pr.ops = ps from CC.out.eq)]
                simp [List.getD, hkq, HQ.out, Pr.ops]
              have h3 : ((ps.getD k []).getD j default).cs.length ≤ 3000 := C1.out k hkp j (by show j < (ps.getD k []).length; rw [h2]; simpa using hjt)
              rw [h2] at h3
              have h4 : (es.map (·.1)).getD j default = o := by simp [List.getD, hjt, ho]
              rw [h4] at h3
              exact h3
            clear ho r3 r4 r5
            go_wp2_with fail
            go_loopw [65] (fun i wv => ∃ e : Nat, e ≤ o.cs.length ∧ i = .int .i64 e ∧ Wr lo wc.heap.size wy wv) (fun i _ => o.cs.length - (intOf i).toNat)
            case atStart => exact ⟨0, by omega, rfl, WX.out⟩
            case round =>
              obtain ⟨e, he, rfl, hWv⟩ := hrel
              have WV := Lib.hid hWv
              clear hWv q0 q1 q2 q3 q4 r1 r2
              obtain ⟨q0, q1, q2, q3, q4⟩ := five_cells (STY.out.wr WV.out).2.1
              obtain ⟨_, _, e3, r1⟩ := rd_pr CP0.out STY.out.zc WV.out k hkq
              cases e3
              rw [HQ.out] at r1
              dsimp only at r1
              obtain ⟨_, _, e4, r2, r3, r4, r5⟩ := rd_op OC.out STY.out.zc WV.out j hjt
              cases e4
              rw [HO.out] at r2
              dsimp only at r2
              by_cases hlt2 : e < o.cs.length
              · have hlt2' : (e : Int) < (o.cs.length : Int) := by omega
                obtain ⟨g3, k3, e6, ⟨old, r6⟩, r7, r8⟩ := rd_cs UC.out STY.out.zc WV.out e hlt2
                cases e6
                have R8 := Lib.hid r8
                clear r3 r4 r5 r8
                go_wp2_with fail
                go_roundw
                case rel => exact ⟨e + 1, by omega, by go_num, R8.out⟩
                case measure => simp [intOf] <;> omega
              · have een : e = o.cs.length := by omega
                have R5 := Lib.hid r5
                obtain ⟨old, r3⟩ := r3
                clear r5
                go_wp2_with fail
                go_roundw
                case rel => exact ⟨j + 1, by omega, by go_num, R5.out⟩
                case measure => simp [intOf] <;> omega
          · have ejn : j = es.length := by omega
            go_wp2_with fail
            go_roundw
            case rel => exact ⟨k + 1, by omega, by go_num, WX.out⟩
            case measure => simp [intOf] <;> omega
      · have ekn : k = nq := by omega
        have hpl : pl.length ≤ 1000 := S1.out.l
        have hdr : dr.length ≤ 1000 := S1.out.d
        go_wp2_with fail
        go_loopw [94] (fun i wx => ∃ j : Nat, j ≤ pl.length ∧ i = .int .i64 j ∧ Wr lo wc.heap.size wy wx) (fun i _ => pl.length - (intOf i).toNat)
        case atStart => exact ⟨0, by omega, rfl, WR.out⟩
        case round =>
          obtain ⟨j, hj, rfl, hWx⟩ := hrel
          have WX := Lib.hid hWx
          clear hWx q0 q1 q2 q3 q4
          obtain ⟨q0, q1, q2, q3, q4⟩ := five_cells (STY.out.wr WX.out).2.1
          by_cases hjt : j < pl.length
          · have hjt' : (j : Int) < (pl.length : Int) := by omega
            obtain ⟨g3, k3, e6, ⟨old, r6⟩, r7, r8⟩ := rd_int CC.out.l STY.out.zc WX.out j hjt
            cases e6
            have R8 := Lib.hid r8
            clear r8
            go_wp2_with fail
            go_roundw
            case rel => exact ⟨j + 1, by omega, by go_num, R8.out⟩
            case measure => simp [intOf] <;> omega
          · have ejn : j = pl.length := by omega
            go_wp2_with fail
            go_loopw [105] (fun i wv => ∃ e : Nat, e ≤ dr.length ∧ i = .int .i64 e ∧ Wr lo wc.heap.size wy wv) (fun i _ => dr.length - (intOf i).toNat)
            case atStart => exact ⟨0, by omega, rfl, WX.out⟩
            case round =>
              obtain ⟨e, he, rfl, hWv⟩ := hrel
              have WV := Lib.hid hWv
              clear hWv q0 q1 q2 q3 q4
              obtain ⟨q0, q1, q2, q3, q4⟩ := five_cells (STY.out.wr WV.out).2.1
              by_cases hlt2 : e < dr.length
              · have hlt2' : (e : Int) < (dr.length : Int) := by omega
                obtain ⟨g3, k3, e6, ⟨old, r6⟩, r7, r8⟩ := rd_int CC.out.d STY.out.zc WV.out e hlt2
                cases e6
                have R8 := Lib.hid r8
                clear r8
                go_wp2_with fail
                go_roundw
                case rel => exact ⟨e + 1, by omega, by go_num, R8.out⟩
                case measure => simp [intOf] <;> omega
              · have een : e = dr.length := by omega
                have FD := Lib.hid (show ScrAt wr (.slice a4 ps.length c4) (.slice a5 pl.length c5) (.slice a6 dr.length c6) ⟨t, m, ps, pl, dr⟩ from
                  (DD.out.block (w' := wr) (fun g h1 h2 => (WV.out.out g (by have := STY.out.hcd; have := Z2S.out; omega)).trans (STY.out.zd.block g h2))).at)
                have BV := Lib.hid (STY.out.wr WV.out).2.2.2
                obtain ⟨p0, p1, p2, p3, p4⟩ := five_cells (STY.out.wr WV.out).1
                obtain ⟨u0, u1, u2, u3, u4⟩ := five_cells (STY.out.wr WV.out).2.2.1
                clear q0 q1 q2 q3 q4
                go_wp2_with fail
                refine (SC.out _ _ _ _ FD.out BV.out S1.out C1.out).mono ?_
                rintro r w8 ⟨rfl, hB8⟩
                have B8 := Lib.hid (BV.out.trans (hB8.mono BV.out.size))
                clear hB8
                go_wp2_with fail
                refine (exits_any _).mono ?_
                rintro r w9 ⟨rfl, hB9⟩
                have B9 := Lib.hid (B8.out.trans (hB9.mono B8.out.size))
                clear hB9
                go_wp2_with fail
                go_ret
                exact ⟨rfl, B9.out⟩
end Go.Proofs.Ytpefjcmaggimhaa

