
/-
  The walk of SheetBack.
-/
import Derived.Test.YtpefjcmaggimhaaLaw5a
import Derived.Test.YtpefjcmaggimhaaLaw5b
namespace Go.Proofs.Ytpefjcmaggimhaa
open Go.RowKit
set_option linter.unusedVariables false
set_option linter.unusedSimpArgs false
set_option maxRecDepth 100000

/-- A second box. -/
structure Box2 (w0 w : World) (A : Array Value) (g : Nat) (C : Array Value) : Prop where
  one : Box1 w0 w A
  box : w.heap[g]? = some (.cells C 25 (0, 0))
theorem Box2.below {w0 w w' : World} {A C : Array Value} {g : Nat} (h : Box2 w0 w A g C) (hB : Below w.heap.size w w') : Box2 w0 w' A g C :=
  ⟨h.one.below hB, (hB.block _ (lt_of_heap h.box)).trans h.box⟩
theorem Box1.second {w0 w : World} {A : Array Value} (h : Box1 w0 w A) (C : Array Value) : Box2 w0 (w.alloc (.cells C 25)) A w.heap.size C :=
  ⟨h.below (below1 _ _), heap_alloc_new _ _⟩
set_option maxHeartbeats 8000000 in
theorem sback_law (vp vl vd : Value) (s : Scr) (b : List UInt8) (w : World) (h : ScrAt w vp vl vd s) (hb : b.length ≤ 140737488351232) : Calls Try.prog 5 #[scrV vp vl vd s, bs b] w (LawPost w) := by
  have H := Lib.hid h
  have LG := Lib.hid (fun W (hW : Below w.heap.size w W) => large_any _ _ _ s W (H.out.below (Nat.le_refl _) hW))
  have EN := Lib.hid (fun W (hW : Below w.heap.size w W) (hs : Small s) => sencode_any _ _ _ s W (H.out.below (Nat.le_refl _) hW) hs.scrN)
  have DA := Lib.hid (fun W (hc : chkS s = 0) => sdecode_any (encS s) W encS_len)
  have DB := Lib.hid (fun W (hl : b.length ≤ 100000) => sdecode_any b W hl)
  have GS := Lib.hid (fun (hc : chkS s = 0) => good_n (good_of hc))
  have DS := Lib.hid (fun (hc : chkS s = 0) => dec_encS hc)
  have BK := Lib.hid (fun x (hx : decX b = some x) => And.intro (enc_decX hx) (good_n (good_of (enc_decX hx).1)))
  have SC := Lib.hid (fun W ap al ad (ha : ScrAt W ap al ad s) (hW : Below w.heap.size w W) (hc : chkS s = 0) => script_any ap al ad _ _ _ s s W ha (H.out.below (Nat.le_refl _) hW) (good_n (good_of hc)).1 (good_n (good_of hc)).1 (good_n (good_of hc)).2)
  obtain ⟨ap, cp, rfl⟩ := h.p.shape
  obtain ⟨al, cl, rfl⟩ := slI_shape h.l
  obtain ⟨ad, cd, rfl⟩ := slI_shape h.d
  obtain ⟨y, hy⟩ : ∃ y, encS s = y := ⟨_, rfl⟩
  obtain ⟨c, hc⟩ : ∃ c, chkS s = c := ⟨_, rfl⟩
  rw [hy] at DA DS
  rw [hc] at DA GS DS SC
  rw [hy, hc] at EN
  obtain ⟨S, hS⟩ : ∃ S : ByteArray, ByteArray.mk y.toArray = S := ⟨_, rfl⟩
  have hbs : bs y = .string S := by rw [← hS]; rfl
  rw [hbs] at EN DA
  obtain ⟨T, hT⟩ : ∃ T : ByteArray, ByteArray.mk b.toArray = T := ⟨_, rfl⟩
  have hbt : bs b = .string T := by rw [← hT]; rfl
  have hsz : T.size = b.length := by rw [← hT]; simp [ByteArray.size]
  have HBT := Lib.hid hbt
  rw [hbt] at DB ⊢
  have SCT := Lib.hid (fun W ap al ad (ha : ScrAt W ap al ad s) (hW : Below w.heap.size w W) (hc : c = 0) => by
    have := SC.out W ap al ad ha hW hc
    rw [decide_eq_true (rfl : s = s)] at this
    exact this)
  clear hy hc hS hbs hT hbt h H SC
  obtain ⟨t, m, ps, pl, dr⟩ := s
  have B0 := Lib.hid (Box1.new w (scrC (.slice ap ps.length cp) (.slice al pl.length cl) (.slice ad dr.length cd) ⟨t, m, ps, pl, dr⟩))
  unfold LargePost at LG
  unfold DSPost at DA DB
  unfold scrV at LG EN DA DB SCT ⊢
  unfold scrC at B0 LG EN DA DB SCT ⊢
  dsimp only at B0 LG EN SCT ⊢
  go_enter Try.func5, Try.ntmps5
  go_wp2_with fail
  refine (LG.out _ B0.out.bel).mono ?_
  rintro r w1 ⟨bb, rfl, hsm, hB1⟩
  have B1 := Lib.hid (B0.out.below hB1)
  have SM := Lib.hid hsm
  clear hB1 hsm B0 LG
  have END : ∀ W (_ : Below w.heap.size w W), True := fun _ _ => trivial
  cases bb with
  | true =>
    clear END
    go_wp2_with fail
    refine (exits_any _).mono ?_
    rintro r w2 ⟨rfl, hB2⟩
    have B2 := Lib.hid (B1.out.bel.trans (hB2.mono B1.out.bel.size))
    clear hB2
    go_wp2_with fail
    go_ret
    exact ⟨rfl, B2.out⟩
  | false =>
    clear END
    have S1 := Lib.hid (SM.out rfl).1
    clear SM
    by_cases hbig : 5000 < b.length
    · have d1 : decide (5000 < b.length) = true := decide_eq_true hbig
      have d1' : (5000 : Int) < b.length := by omega
      have d2' : (5000 : Int) < T.size := by omega
      clear hbig
      go_wp2_with fail
      refine (exits_any _).mono ?_
      rintro r w2 ⟨rfl, hB2⟩
      have B2 := Lib.hid (B1.out.bel.trans (hB2.mono B1.out.bel.size))
      clear hB2
      go_wp2_with fail
      go_ret
      exact ⟨rfl, B2.out⟩
    have d1 : decide (5000 < b.length) = false := decide_eq_false hbig
    have d1' : ¬ (5000 : Int) < b.length := by omega
    have d2' : ¬ (5000 : Int) < T.size := by omega
    have HL := Lib.hid (show b.length ≤ 100000 by omega)
    clear hbig
    obtain ⟨z0, z1, z2, z3, z4⟩ := five_cells B1.out.box
    go_wp2_with fail
    refine (EN.out _ B1.out.bel S1.out).mono ?_
    rintro r w2 ⟨rfl, hB2⟩
    have B2 := Lib.hid (B1.out.below hB2)
    clear hB2 z0 z1 z2 z3 z4 B1 EN d1 d1' d2'
    -- the second half: from any world
    have HALF : Hid (∀ W, Below w.heap.size w W → Calls Try.prog 14 #[.string T] W fun r w' => ∃ x vp vl vd, r = .returned (.tuple #[.agg #[.int .i64 (optS x).t, .int .i64 (optS x).m, vp, vl, vd], .int .i64 (optF x)]) ∧ ScrAt w' vp vl vd (optS x) ∧ Below W.heap.size W w' ∧ x = decX b) := Lib.hid (fun W hW => by
      refine (DB.out W HL.out).mono ?_
      rintro r w' ⟨vp, vl, vd, rfl, h1, h2⟩
      exact ⟨_, vp, vl, vd, rfl, h1, h2, rfl⟩)
    clear DB
    by_cases hc0 : c = 0
    · subst hc0
      have DS1 := DS.out rfl
      rw [DS1] at DA
      have DA1 := Lib.hid (fun W => DA.out W rfl)
      dsimp only [optS, optF] at DA1
      have GS1 := GS.out rfl
      have GG := Lib.hid GS1
      clear DS DS1 DA GS GS1
      obtain ⟨z0, z1, z2, z3, z4⟩ := five_cells B2.out.box
      go_wp2_with fail
      refine (DA1.out _).mono ?_
      rintro r w3 ⟨vp, vl, vd, rfl, hs3, hB3⟩
      have S3 := Lib.hid (hs3.below (Nat.le_refl _) (below1 w3 (.cells #[.int .i64 t, .int .i64 m, vp, vl, vd] 25)))
      have B3 := Lib.hid ((B2.out.below hB3).second #[.int .i64 t, .int .i64 m, vp, vl, vd])
      obtain ⟨a1, c1, rfl⟩ := hs3.p.shape
      obtain ⟨a2, c2, rfl⟩ := slI_shape hs3.l
      obtain ⟨a3, c3, rfl⟩ := slI_shape hs3.d
      clear hs3 hB3 B2 DA1 z0 z1 z2 z3 z4
      obtain ⟨z0, z1, z2, z3, z4⟩ := five_cells B3.out.one.box
      obtain ⟨y0, y1, y2, y3, y4⟩ := five_cells B3.out.box
      have SC2 := Lib.hid (SCT.out _ _ _ _ S3.out B3.out.one.bel (by trivial))
      go_wp2_with fail
      refine SC2.out.mono ?_
      rintro r w4 ⟨rfl, hB4⟩
      have BZ := Lib.hid (B3.out.one.bel.trans (hB4.mono B3.out.one.bel.size))
      clear hB4 SC2 S3 B3 z0 z1 z2 z3 z4 y0 y1 y2 y3 y4
      go_wp2_with fail
      refine (HALF.out _ BZ.out).mono ?_
      rintro r w5 ⟨x, vp, vl, vd, rfl, hs5, hB5, hx⟩
      obtain ⟨a4, c4, rfl⟩ := hs5.p.shape
      obtain ⟨a5, c5, rfl⟩ := slI_shape hs5.l
      obtain ⟨a6, c6, rfl⟩ := slI_shape hs5.d
      have B5 := Lib.hid (BZ.out.trans (hB5.mono BZ.out.size))
      cases x with
      | none =>
        have B6 := Lib.hid (B5.out.trans ((below1 w5 (.cells (scrC (.slice a4 zeroScr.ps.length c4) (.slice a5 zeroScr.pl.length c5) (.slice a6 zeroScr.dr.length c6) zeroScr) 25)).mono B5.out.size))
        unfold scrC at B6
        dsimp only [optS, optF]
        clear hs5 hB5 hx
        go_wp2_with fail
        refine (exits_any _).mono ?_
        rintro r w6 ⟨rfl, hB6⟩
        have B7 := Lib.hid (B6.out.trans (hB6.mono B6.out.size))
        clear hB6
        go_wp2_with fail
        go_ret
        exact ⟨rfl, B7.out⟩
      | some x =>
        have S6 := Lib.hid (hs5.below (Nat.le_refl _) (below1 w5 (.cells (scrC (.slice a4 x.ps.length c4) (.slice a5 x.pl.length c5) (.slice a6 x.dr.length c6) x) 25)))
        have E6 := Lib.hid (heap_alloc_new w5 (.cells (scrC (.slice a4 x.ps.length c4) (.slice a5 x.pl.length c5) (.slice a6 x.dr.length c6) x) 25))
        have B6 := Lib.hid (B5.out.trans ((below1 w5 (.cells (scrC (.slice a4 x.ps.length c4) (.slice a5 x.pl.length c5) (.slice a6 x.dr.length c6) x) 25)).mono B5.out.size))
        obtain ⟨⟨k1, k2⟩, k3, k4⟩ := BK.out x hx.symm
        have EN2 := sencode_any _ _ _ x _ S6.out k3
        rw [k1, k2, HBT.out] at EN2
        have EN3 := Lib.hid EN2
        unfold scrV at EN3
        unfold scrC at EN3 E6 B6
        dsimp only [optS, optF]
        obtain ⟨y0, y1, y2, y3, y4⟩ := five_cells E6.out
        clear hs5 hB5 hx k1 k2 k3 k4 EN2
        go_wp2_with fail
        refine EN3.out.mono ?_
        rintro r w6 ⟨rfl, hB6⟩
        have B7 := Lib.hid (B6.out.trans (hB6.mono B6.out.size))
        clear hB6
        go_wp2_with fail
        refine (exits_any _).mono ?_
        rintro r w7 ⟨rfl, hB7⟩
        have B8 := Lib.hid (B7.out.trans (hB7.mono B7.out.size))
        clear hB7
        go_wp2_with fail
        go_ret
        exact ⟨rfl, B8.out⟩
    · skip
      have hc1 : (c == 0) = false := beq_eq_false_iff_ne.2 hc0
      have BZ := Lib.hid B2.out.bel
      clear hc0 DS GS DA SCT B2
      go_wp2_with fail
      refine (HALF.out _ BZ.out).mono ?_
      rintro r w5 ⟨x, vp, vl, vd, rfl, hs5, hB5, hx⟩
      obtain ⟨a4, c4, rfl⟩ := hs5.p.shape
      obtain ⟨a5, c5, rfl⟩ := slI_shape hs5.l
      obtain ⟨a6, c6, rfl⟩ := slI_shape hs5.d
      have B5 := Lib.hid (BZ.out.trans (hB5.mono BZ.out.size))
      cases x with
      | none =>
        have B6 := Lib.hid (B5.out.trans ((below1 w5 (.cells (scrC (.slice a4 zeroScr.ps.length c4) (.slice a5 zeroScr.pl.length c5) (.slice a6 zeroScr.dr.length c6) zeroScr) 25)).mono B5.out.size))
        unfold scrC at B6
        dsimp only [optS, optF]
        clear hs5 hB5 hx
        go_wp2_with fail
        refine (exits_any _).mono ?_
        rintro r w6 ⟨rfl, hB6⟩
        have B7 := Lib.hid (B6.out.trans (hB6.mono B6.out.size))
        clear hB6
        go_wp2_with fail
        go_ret
        exact ⟨rfl, B7.out⟩
      | some x =>
        have S6 := Lib.hid (hs5.below (Nat.le_refl _) (below1 w5 (.cells (scrC (.slice a4 x.ps.length c4) (.slice a5 x.pl.length c5) (.slice a6 x.dr.length c6) x) 25)))
        have E6 := Lib.hid (heap_alloc_new w5 (.cells (scrC (.slice a4 x.ps.length c4) (.slice a5 x.pl.length c5) (.slice a6 x.dr.length c6) x) 25))
        have B6 := Lib.hid (B5.out.trans ((below1 w5 (.cells (scrC (.slice a4 x.ps.length c4) (.slice a5 x.pl.length c5) (.slice a6 x.dr.length c6) x) 25)).mono B5.out.size))
        obtain ⟨⟨k1, k2⟩, k3, k4⟩ := BK.out x hx.symm
        have EN2 := sencode_any _ _ _ x _ S6.out k3
        rw [k1, k2, HBT.out] at EN2
        have EN3 := Lib.hid EN2
        unfold scrV at EN3
        unfold scrC at EN3 E6 B6
        dsimp only [optS, optF]
        obtain ⟨y0, y1, y2, y3, y4⟩ := five_cells E6.out
        clear hs5 hB5 hx k1 k2 k3 k4 EN2
        go_wp2_with fail
        refine EN3.out.mono ?_
        rintro r w6 ⟨rfl, hB6⟩
        have B7 := Lib.hid (B6.out.trans (hB6.mono B6.out.size))
        clear hB6
        go_wp2_with fail
        refine (exits_any _).mono ?_
        rintro r w7 ⟨rfl, hB7⟩
        have B8 := Lib.hid (B7.out.trans (hB7.mono B7.out.size))
        clear hB7
        go_wp2_with fail
        go_ret
        exact ⟨rfl, B8.out⟩
end Go.Proofs.Ytpefjcmaggimhaa

