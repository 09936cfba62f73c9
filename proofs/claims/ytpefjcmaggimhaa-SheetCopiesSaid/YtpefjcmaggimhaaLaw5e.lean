
/-
  The walk of SheetBares.
-/
import Derived.Test.YtpefjcmaggimhaaLaw5a
namespace Go.Proofs.Ytpefjcmaggimhaa
open Go.RowKit
set_option linter.unusedVariables false
set_option linter.unusedSimpArgs false
set_option maxRecDepth 100000

/-! ### Plainly -/
theorem barL_mem {l : List Int} {x : Int} (h : x ∈ barL l) : x ∈ l ∧ x ≠ -1 := by
  unfold barL at h
  rw [List.mem_filter] at h
  exact ⟨h.1, by simpa using h.2⟩
theorem barL_len (l : List Int) : (barL l).length ≤ l.length := List.length_filter_le _ _
theorem barL_twice (l : List Int) : barL (barL l) = barL l := by
  unfold barL
  rw [List.filter_filter]
  simp
theorem barS_twice (s : Scr) : barS (barS s) = barS s := by
  unfold barS
  dsimp only
  rw [barL_twice]
theorem chk_bar {s : Scr} (h : chkS s = 0) : chkS (barS s) = 0 := by
  have e1 : badTM (barS s) = badTM s := rfl
  have e4 : okPs (barS s).ps (barS s).ps.length = okPs s.ps s.ps.length := rfl
  have e2 : longB s = false → longB (barS s) = false := by
    intro hl
    unfold longB at hl ⊢
    simp only [Bool.or_eq_false_iff, decide_eq_false_iff_not] at hl ⊢
    have := barL_len s.pl
    exact ⟨hl.1, by show ¬ 200 < (barL s.pl).length; omega, hl.2.2.1, hl.2.2.2⟩
  have e3 : frmB s = false → frmB (barS s) = false := by
    intro hf
    unfold frmB at hf ⊢
    simp only [Bool.or_eq_false_iff] at hf ⊢
    refine ⟨hf.1, ?_, hf.2.2⟩
    rw [List.any_eq_false] at hf ⊢
    intro x hx
    exact hf.2.1 x (barL_mem hx).1
  unfold chkS at h ⊢
  rw [e1, e4]
  cases hb : badTM s with
  | true => rw [hb] at h; simp at h
  | false =>
    rw [hb] at h
    simp only [Bool.false_eq_true, if_false] at h ⊢
    cases hl : longB s with
    | true => rw [hl] at h; simp at h
    | false =>
      rw [hl] at h
      rw [e2 hl]
      simp only [Bool.false_eq_true, if_false] at h ⊢
      cases hf : frmB s with
      | true => rw [hf] at h; simp at h
      | false =>
        rw [hf] at h
        rw [e3 hf]
        simpa using h
theorem Small.bar {s : Scr} (h : Small s) : Small (barS s) := ⟨h.p, Nat.le_trans (barL_len _) h.l, h.d, h.o⟩

/-! ### The walk -/
/-- Boxes: the first at the bottom, and two that came later. -/
structure BoxT (w0 w : World) (A : Array Value) (g : Nat) (C : Array Value) : Prop where
  one : Box1 w0 w A
  box : w.heap[g]? = some (.cells C 25 (0, 0))
theorem BoxT.below {w0 w w' : World} {A C : Array Value} {g : Nat} (h : BoxT w0 w A g C) (hB : Below w.heap.size w w') : BoxT w0 w' A g C :=
  ⟨h.one.below hB, (hB.block _ (lt_of_heap h.box)).trans h.box⟩
theorem Box1.more {w0 w : World} {A : Array Value} (h : Box1 w0 w A) (C : Array Value) : BoxT w0 (w.alloc (.cells C 25)) A w.heap.size C :=
  ⟨h.below (below1 _ _), heap_alloc_new _ _⟩
set_option maxHeartbeats 8000000 in
theorem sbares_law (vp vl vd : Value) (s : Scr) (w : World) (h : ScrAt w vp vl vd s) (hC : CsB bigC s.ps) : Calls Try.prog 7 #[scrV vp vl vd s] w (LawPost w) := by
  have H := Lib.hid h
  have LG := Lib.hid (fun W (hW : Below w.heap.size w W) => large_any _ _ _ s W (H.out.below (Nat.le_refl _) hW))
  have BA := Lib.hid (fun W (hW : Below w.heap.size w W) (hs : Small s) (hc : CsB 3000 s.ps) => bareS_any _ _ _ s W (H.out.below (Nat.le_refl _) hW) (hs.szS hc))
  have BB := Lib.hid (fun W ap al ad (ha : ScrAt W ap al ad (barS s)) (hs : Small s) (hc : CsB 3000 s.ps) => bareS_any ap al ad (barS s) W ha (hs.bar.szS hc))
  have CK := Lib.hid (fun W (hW : Below w.heap.size w W) (hs : Small s) => scheck_any _ _ _ s W (H.out.below (Nat.le_refl _) hW) hs.scrN)
  have CB := Lib.hid (fun W ap al ad (ha : ScrAt W ap al ad (barS s)) (hs : Small s) => scheck_any ap al ad (barS s) W ha hs.bar.scrN)
  have SC := Lib.hid (fun W ap al ad bp bl bd (ha : ScrAt W ap al ad (barS s)) (hb : ScrAt W bp bl bd (barS s)) (hs : Small s) (hc : CsB 3000 s.ps) => script_any ap al ad bp bl bd (barS s) (barS s) W ha hb hs.bar.scrN hs.bar.scrN (csB_csN hc (by decide)))
  have CC := Lib.hid (show CsB bigC s.ps → True from fun _ => trivial)
  have HC := Lib.hid hC
  have KB := Lib.hid (chk_bar (s := s))
  have SP := Lib.hid (show ∀ j, j < (barL s.pl).length → (barL s.pl).getD j 0 ≠ -1 from fun j hj => (barL_mem (l := s.pl) (by rw [List.getD_eq_getElem?_getD, List.getElem?_eq_getElem hj]; exact List.getElem_mem _)).2)
  have SL := Lib.hid (show Small s → (barL s.pl).length ≤ 1000 from fun hs => Nat.le_trans (barL_len _) hs.l)
  have BT := Lib.hid (barS_twice s)
  obtain ⟨ap, cp, rfl⟩ := h.p.shape
  obtain ⟨al, cl, rfl⟩ := slI_shape h.l
  obtain ⟨ad, cd, rfl⟩ := slI_shape h.d
  obtain ⟨c, hc⟩ : ∃ c, chkS s = c := ⟨_, rfl⟩
  obtain ⟨c', hc'⟩ : ∃ c, chkS (barS s) = c := ⟨_, rfl⟩
  rw [hc] at CK KB
  rw [hc'] at CB KB
  clear hc hc' h H hC CC
  obtain ⟨t, m, ps, pl, dr⟩ := s
  have B0 := Lib.hid (Box1.new w (scrC (.slice ap ps.length cp) (.slice al pl.length cl) (.slice ad dr.length cd) ⟨t, m, ps, pl, dr⟩))
  unfold LargePost at LG
  unfold BarSPost at BA BB
  rw [BT.out] at BB
  unfold scrV at LG BA BB CK CB SC ⊢
  unfold scrC at B0 LG BA BB CK CB SC ⊢
  dsimp only [barS] at B0 LG BA BB CK CB SC SP SL HC ⊢
  go_enter Try.func7, Try.ntmps7
  go_wp2_with fail
  refine (LG.out _ B0.out.bel).mono ?_
  rintro r w1 ⟨bb, rfl, hsm, hB1⟩
  have B1 := Lib.hid (B0.out.below hB1)
  have SM := Lib.hid hsm
  clear hB1 hsm B0 LG
  cases bb with
  | true =>
    go_wp2_with fail
    refine (exits_any _).mono ?_
    rintro r w2 ⟨rfl, hB2⟩
    have B2 := Lib.hid (B1.out.bel.trans (hB2.mono B1.out.bel.size))
    clear hB2
    go_wp2_with fail
    go_ret
    exact ⟨rfl, B2.out⟩
  | false =>
    have S1 := Lib.hid (SM.out rfl).1
    have C1 := Lib.hid ((SM.out rfl).2 HC.out)
    clear SM HC
    obtain ⟨z0, z1, z2, z3, z4⟩ := five_cells B1.out.box
    go_wp2_with fail
    refine (BA.out _ B1.out.bel S1.out C1.out).mono ?_
    rintro r w2 ⟨bp, bl, bd, qs, rfl, hs2, hB2⟩
    have A2 := hs2.at
    obtain ⟨a1, c1, e1⟩ := A2.p.shape
    obtain ⟨a2, c2, e2⟩ := slI_shape A2.l
    obtain ⟨a3, c3, e3⟩ := slI_shape A2.d
    subst e1; subst e2; subst e3
    dsimp only at A2
    have B2 := Lib.hid ((B1.out.below hB2).more #[.int .i64 t, .int .i64 m, .slice a1 ps.length c1, .slice a2 (barL pl).length c2, .slice a3 dr.length c3])
    have S2 := Lib.hid (A2.below (Nat.le_refl _) (below1 w2 (.cells #[.int .i64 t, .int .i64 m, .slice a1 ps.length c1, .slice a2 (barL pl).length c2, .slice a3 dr.length c3] 25)))
    clear hs2 hB2 A2 BA B1 z0 z1 z2 z3 z4
    obtain ⟨z0, z1, z2, z3, z4⟩ := five_cells B2.out.box
    go_wp2_with fail
    obtain ⟨g2, hg2⟩ : ∃ x, w2.heap.size = x := ⟨_, rfl⟩
    obtain ⟨W2, hW2⟩ : ∃ x, w2.alloc (.cells #[.int .i64 t, .int .i64 m, .slice a1 ps.length c1, .slice a2 (barL pl).length c2, .slice a3 dr.length c3] 25) = x := ⟨_, rfl⟩
    rw [hW2, hg2] at B2
    rw [hW2] at S2 ⊢
    rw [hg2]
    refine (BB.out _ _ _ _ S2.out S1.out C1.out).mono ?_
    rintro r w3 ⟨up, ul, ud, rs, rfl, hs3, hB3⟩
    have A3 := hs3.at
    obtain ⟨a4, c4, e1⟩ := A3.p.shape
    obtain ⟨a5, c5, e2⟩ := slI_shape A3.l
    obtain ⟨a6, c6, e3⟩ := slI_shape A3.d
    subst e1; subst e2; subst e3
    dsimp only at A3
    have N3 := below1 w3 (.cells #[.int .i64 t, .int .i64 m, .slice a4 ps.length c4, .slice a5 (barL pl).length c5, .slice a6 dr.length c6] 25)
    have B3 := Lib.hid ((B2.out.below hB3).below N3)
    have E3 := Lib.hid (heap_alloc_new w3 (.cells #[.int .i64 t, .int .i64 m, .slice a4 ps.length c4, .slice a5 (barL pl).length c5, .slice a6 dr.length c6] 25))
    have S3 := Lib.hid ((S2.out.below (Nat.le_refl _) hB3).below (Nat.le_refl _) N3)
    have T3 := Lib.hid (A3.below (Nat.le_refl _) N3)
    clear hs3 hB3 A3 BB B2 S2 N3 z0 z1 z2 z3 z4 hg2 hW2
    obtain ⟨z0, z1, z2, z3, z4⟩ := five_cells B3.out.one.box
    go_wp2_with fail
    obtain ⟨g3, hg3⟩ : ∃ x, w3.heap.size = x := ⟨_, rfl⟩
    obtain ⟨W3, hW3⟩ : ∃ x, w3.alloc (.cells #[.int .i64 t, .int .i64 m, .slice a4 ps.length c4, .slice a5 (barL pl).length c5, .slice a6 dr.length c6] 25) = x := ⟨_, rfl⟩
    rw [hW3] at B3 S3 T3 E3 ⊢
    rw [hg3] at E3 ⊢
    refine (CK.out _ B3.out.one.bel S1.out).mono ?_
    rintro r w4 ⟨rfl, hB4⟩
    have B4 := Lib.hid (B3.out.below hB4)
    have E4 := Lib.hid ((hB4.block _ (lt_of_heap E3.out)).trans E3.out)
    have S4 := Lib.hid (S3.out.below (Nat.le_refl _) hB4)
    have T4 := Lib.hid (T3.out.below (Nat.le_refl _) hB4)
    clear hB4 B3 S3 T3 E3 CK z0 z1 z2 z3 z4 hg3 hW3
    -- whatever the check says: from some world
    have KEY : ∀ w5, Below w4.heap.size w4 w5 → BoxT w w5 #[.int .i64 t, .int .i64 m, .slice ap ps.length cp, .slice al pl.length cl, .slice ad dr.length cd] g2 #[.int .i64 t, .int .i64 m, .slice a1 ps.length c1, .slice a2 (barL pl).length c2, .slice a3 dr.length c3] ∧ w5.heap[g3]? = some (.cells #[.int .i64 t, .int .i64 m, .slice a4 ps.length c4, .slice a5 (barL pl).length c5, .slice a6 dr.length c6] 25 (0, 0)) ∧ ScrAt w5 (.slice a1 ps.length c1) (.slice a2 (barL pl).length c2) (.slice a3 dr.length c3) ⟨t, m, ps, barL pl, dr⟩ ∧ ScrAt w5 (.slice a4 ps.length c4) (.slice a5 (barL pl).length c5) (.slice a6 dr.length c6) ⟨t, m, ps, barL pl, dr⟩ := fun w5 hB => ⟨B4.out.below hB, (hB.block _ (lt_of_heap E4.out)).trans E4.out, S4.out.below (Nat.le_refl _) hB, T4.out.below (Nat.le_refl _) hB⟩
    have KY := Lib.hid KEY
    clear KEY
    have hlen := SL.out S1.out
    obtain ⟨bl, hbl⟩ : ∃ x, barL pl = x := ⟨_, rfl⟩
    rw [hbl] at KY B4 S4 T4 E4 CB SC SP hlen ⊢
    clear hbl SL
    by_cases hc0 : c = 0
    · subst hc0
      have hc1 := KB.out (by trivial)
      subst hc1
      obtain ⟨z0, z1, z2, z3, z4⟩ := five_cells B4.out.box
      go_wp2_with fail
      refine (CB.out _ _ _ _ S4.out S1.out).mono ?_
      rintro r w5 ⟨rfl, hB5⟩
      have K5 := Lib.hid (KY.out w5 hB5)
      clear hB5 KY B4 S4 T4 E4 CB z0 z1 z2 z3 z4
      obtain ⟨z0, z1, z2, z3, z4⟩ := five_cells K5.out.1.box
      go_wp2_with fail
      go_loopw [27] (fun i wr => ∃ j : Nat, j ≤ bl.length ∧ i = .int .i64 j ∧ wr = w5) (fun i _ => bl.length - (intOf i).toNat)
      case atStart => exact ⟨0, by omega, rfl, rfl⟩
      case round =>
        obtain ⟨j, hj, rfl, rfl⟩ := hrel
        by_cases hlt : j < bl.length
        · have hlt' : (j : Int) < (bl.length : Int) := by omega
          obtain ⟨b', o', rfl, c0⟩ := slI_at K5.out.2.2.1.l j hlt
          have hx1 := SP.out j hlt
          dsimp only at c0
          obtain ⟨x, hx⟩ : ∃ x, bl.getD j 0 = x := ⟨_, rfl⟩
          rw [hx] at c0 hx1
          have hx2 : (x == -1) = false := beq_eq_false_iff_ne.2 hx1
          clear hx hx1
          go_wp2_with fail
          go_roundw
          case rel => exact ⟨j + 1, by omega, by go_num, by trivial⟩
          case measure => simp [intOf] <;> omega
        · have ejn : j = bl.length := by omega
          subst ejn
          have SC2 := Lib.hid (SC.out _ _ _ _ _ _ _ K5.out.2.2.1 K5.out.2.2.2 S1.out C1.out)
          try rw [decide_eq_true rfl] at SC2
          obtain ⟨y0, y1, y2, y3, y4⟩ := five_cells K5.out.2.1
          go_wp2_with fail
          refine SC2.out.mono ?_
          rintro r w6 ⟨rfl, hB6⟩
          have B6 := Lib.hid (K5.out.1.one.bel.trans (hB6.mono K5.out.1.one.bel.size))
          clear hB6
          go_wp2_with fail
          refine (exits_any _).mono ?_
          rintro r w7 ⟨rfl, hB7⟩
          have B7 := Lib.hid (B6.out.trans (hB7.mono B6.out.size))
          clear hB7
          go_wp2_with fail
          go_ret
          exact ⟨rfl, B7.out⟩
    · have hc1 : (c == 0) = false := beq_eq_false_iff_ne.2 hc0
      have K5 := Lib.hid (KY.out w4 (Below.refl _ _))
      clear hc0 KY B4 S4 T4 E4 CB KB
      obtain ⟨w5, rfl⟩ : ∃ x, x = w4 := ⟨_, rfl⟩
      obtain ⟨z0, z1, z2, z3, z4⟩ := five_cells K5.out.1.box
      go_wp2_with fail
      go_loopw [27] (fun i wr => ∃ j : Nat, j ≤ bl.length ∧ i = .int .i64 j ∧ wr = w5) (fun i _ => bl.length - (intOf i).toNat)
      case atStart => exact ⟨0, by omega, rfl, rfl⟩
      case round =>
        obtain ⟨j, hj, rfl, rfl⟩ := hrel
        by_cases hlt : j < bl.length
        · have hlt' : (j : Int) < (bl.length : Int) := by omega
          obtain ⟨b', o', rfl, c0⟩ := slI_at K5.out.2.2.1.l j hlt
          have hx1 := SP.out j hlt
          dsimp only at c0
          obtain ⟨x, hx⟩ : ∃ x, bl.getD j 0 = x := ⟨_, rfl⟩
          rw [hx] at c0 hx1
          have hx2 : (x == -1) = false := beq_eq_false_iff_ne.2 hx1
          clear hx hx1
          go_wp2_with fail
          go_roundw
          case rel => exact ⟨j + 1, by omega, by go_num, by trivial⟩
          case measure => simp [intOf] <;> omega
        · have ejn : j = bl.length := by omega
          subst ejn
          have SC2 := Lib.hid (SC.out _ _ _ _ _ _ _ K5.out.2.2.1 K5.out.2.2.2 S1.out C1.out)
          try rw [decide_eq_true rfl] at SC2
          obtain ⟨y0, y1, y2, y3, y4⟩ := five_cells K5.out.2.1
          go_wp2_with fail
          refine SC2.out.mono ?_
          rintro r w6 ⟨rfl, hB6⟩
          have B6 := Lib.hid (K5.out.1.one.bel.trans (hB6.mono K5.out.1.one.bel.size))
          clear hB6
          go_wp2_with fail
          refine (exits_any _).mono ?_
          rintro r w7 ⟨rfl, hB7⟩
          have B7 := Lib.hid (B6.out.trans (hB7.mono B6.out.size))
          clear hB7
          go_wp2_with fail
          go_ret
          exact ⟨rfl, B7.out⟩
end Go.Proofs.Ytpefjcmaggimhaa

