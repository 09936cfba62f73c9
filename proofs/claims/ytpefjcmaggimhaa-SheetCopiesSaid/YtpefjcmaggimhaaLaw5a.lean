
/-
  The walks of SheetChecks and SheetDecodes.
-/
import Derived.Test.YtpefjcmaggimhaaSheY
namespace Go.Proofs.Ytpefjcmaggimhaa
open Go.RowKit
set_option linter.unusedVariables false
set_option linter.unusedSimpArgs false
set_option maxRecDepth 100000

structure Box1 (w0 w : World) (A : Array Value) : Prop where
  box : w.heap[w0.heap.size]? = some (.cells A 25 (0, 0))
  bel : Below w0.heap.size w0 w
theorem Box1.below {w0 w w' : World} {A : Array Value} (h : Box1 w0 w A) (hB : Below w.heap.size w w') : Box1 w0 w' A :=
  ⟨(hB.block _ (lt_of_heap h.box)).trans h.box, h.bel.trans (hB.mono h.bel.size)⟩
theorem Box1.new (w : World) (A : Array Value) : Box1 w (w.alloc (.cells A 25)) A := ⟨heap_alloc_new _ _, below1 _ _⟩
set_option maxHeartbeats 4000000 in
theorem schecks_law (vp vl vd : Value) (s : Scr) (w : World) (h : ScrAt w vp vl vd s) : Calls Try.prog 3 #[scrV vp vl vd s] w (LawPost w) := by
  have H := Lib.hid h
  have LG := Lib.hid (fun W (hW : Below w.heap.size w W) => large_any _ _ _ s W (H.out.below (Nat.le_refl _) hW))
  have EN := Lib.hid (fun W (hW : Below w.heap.size w W) (hs : Small s) => sencode_any _ _ _ s W (H.out.below (Nat.le_refl _) hW) hs.scrN)
  have RE := Lib.hid (fun W (hW : Below w.heap.size w W) (hs : Small s) => rsencode_any _ _ _ s W (H.out.below (Nat.le_refl _) hW) hs.scrN)
  have CK := Lib.hid (fun W (hW : Below w.heap.size w W) (hs : Small s) => scheck_any _ _ _ s W (H.out.below (Nat.le_refl _) hW) hs.scrN)
  have RC := Lib.hid (fun W (hW : Below w.heap.size w W) (hs : Small s) => rscheck_any _ _ _ s W (H.out.below (Nat.le_refl _) hW) hs.scrN)
  obtain ⟨ap, cp, rfl⟩ := h.p.shape
  obtain ⟨al, cl, rfl⟩ := slI_shape h.l
  obtain ⟨ad, cd, rfl⟩ := slI_shape h.d
  obtain ⟨y, hy⟩ : ∃ y, encS s = y := ⟨_, rfl⟩
  obtain ⟨c, hc⟩ : ∃ c, chkS s = c := ⟨_, rfl⟩
  rw [hy, hc] at EN RE
  rw [hc] at CK RC
  obtain ⟨S, hS⟩ : ∃ S : ByteArray, ByteArray.mk y.toArray = S := ⟨_, rfl⟩
  have hbs : bs y = .string S := by rw [← hS]; rfl
  rw [hbs] at EN RE
  clear hy hc hS hbs h H
  obtain ⟨t, m, ps, pl, dr⟩ := s
  have B0 := Lib.hid (Box1.new w (scrC (.slice ap ps.length cp) (.slice al pl.length cl) (.slice ad dr.length cd) ⟨t, m, ps, pl, dr⟩))
  unfold LargePost at LG
  unfold scrV at LG EN RE CK RC ⊢
  unfold scrC at B0 LG EN RE CK RC ⊢
  dsimp only at B0 LG EN RE CK RC ⊢
  go_enter Try.func3, Try.ntmps3
  go_wp2_with fail
  refine (LG.out _ B0.out.bel).mono ?_
  rintro r w1 ⟨b, rfl, hsm, hB1⟩
  have B1 := Lib.hid (B0.out.below hB1)
  have SM := Lib.hid hsm
  clear hB1 hsm B0 LG
  cases b with
  | true =>
    go_wp2_with fail
    refine (exits_any _).mono ?_
    rintro r w2 ⟨rfl, hB2⟩
    have B2 := Lib.hid (B1.out.bel.trans (hB2.mono B1.out.bel.size))
    clear hB2
    go_wp2_with fail
    go_ret
    exact ⟨rfl, B2.out⟩
  | false =>
    have S1 := Lib.hid (SM.out rfl).1
    clear SM
    obtain ⟨z0, z1, z2, z3, z4⟩ := five_cells B1.out.box
    go_wp2_with fail
    refine (EN.out _ B1.out.bel S1.out).mono ?_
    rintro r w2 ⟨rfl, hB2⟩
    have B2 := Lib.hid (B1.out.below hB2)
    clear hB2 z0 z1 z2 z3 z4 B1 EN
    obtain ⟨z0, z1, z2, z3, z4⟩ := five_cells B2.out.box
    go_wp2_with fail
    refine (RE.out _ B2.out.bel S1.out).mono ?_
    rintro r w3 ⟨rfl, hB3⟩
    have B3 := Lib.hid (B2.out.below hB3)
    clear hB3 z0 z1 z2 z3 z4 B2 RE
    obtain ⟨z0, z1, z2, z3, z4⟩ := five_cells B3.out.box
    go_wp2_with fail
    go_region_held3 (fun w' => w'.cell? ⟨w.heap.size, 0, none⟩ = some (.int .i64 t) ∧ w'.cell? ⟨w.heap.size, 1, none⟩ = some (.int .i64 m) ∧ w'.cell? ⟨w.heap.size, 2, none⟩ = some (.slice ap ps.length cp) ∧ w'.cell? ⟨w.heap.size, 3, none⟩ = some (.slice al pl.length cl) ∧ w'.cell? ⟨w.heap.size, 4, none⟩ = some (.slice ad dr.length cd)) (go_keep)
      (first
        | (go_at_call 12; (with_reducible refine (CK.out _ B3.out.bel.drew S1.out).mono ?_); rintro r w4 ⟨rfl, hB4⟩; have B4 := Lib.hid (B3.out.below (below_drewS hB4)); clear hB4 z0 z1 z2 z3 z4; obtain ⟨z0, z1, z2, z3, z4⟩ := five_cells B4.out.box)
        | (go_at_call 13; (with_reducible refine (RC.out _ B4.out.bel S1.out).mono ?_); rintro r w5 ⟨rfl, hB5⟩; have B5 := Lib.hid (B4.out.below hB5); clear hB5 z0 z1 z2 z3 z4; obtain ⟨z0, z1, z2, z3, z4⟩ := five_cells B5.out.box)
        | (go_at_call 9; (with_reducible refine (exits_any _).mono ?_); rintro r w6 ⟨rfl, hB6⟩; have B6 := Lib.hid (B5.out.below hB6); clear hB6 z0 z1 z2 z3 z4; obtain ⟨z0, z1, z2, z3, z4⟩ := five_cells B6.out.box))
    go_wp2_with fail
    go_ret
    exact ⟨rfl, B6.out.bel⟩
theorem dec_chk {b : List UInt8} {x : Scr} (h : decX b = some x) : chkS x = 0 := by
  unfold decX at h
  split at h
  · cases h
  · split at h
    · cases h
    · unfold endX at h
      split at h
      · rename_i ho
        have hx := Option.some.inj h
        unfold endOk at ho
        simp only [Bool.and_eq_true, decide_eq_true_eq] at ho
        rw [← hx]
        exact ho.2.2.2
      · cases h
theorem good_n {s : Scr} (G : Good s) : ScrN s ∧ CsN s.ps :=
  ⟨⟨Nat.le_trans G.p.2 (by decide), Nat.le_trans G.l (by decide), Nat.le_trans G.d (by decide), fun k hk => Nat.le_trans (G.o k hk) (by decide)⟩, fun k hk j hj => by
    have := (chkO_zero (G.c k hk j hj)).2.2.1
    omega⟩
set_option maxHeartbeats 4000000 in
theorem sdecodes_law (b : List UInt8) (w : World) (hb : b.length ≤ 140737488351232) : Calls Try.prog 4 #[bs b] w (LawPost w) := by
  have DE := Lib.hid (fun W (hl : b.length ≤ 100000) => sdecode_any b W hl)
  have RD := Lib.hid (fun W (hl : b.length ≤ 100000) => rsdecode_any b W hl)
  rw [rdecX_eq] at RD
  have hx : ∀ x, decX b = some x → Good x := fun x h => good_of (dec_chk h)
  have NN : ScrN (optS (decX b)) ∧ CsN (optS (decX b)).ps := by
    cases h : decX b with
    | none => exact ⟨⟨by decide, by decide, by decide, fun k hk => by simp [optS, zeroScr] at hk⟩, fun k hk => by simp [optS, zeroScr] at hk⟩
    | some x => exact good_n (hx x h)
  obtain ⟨y, hy⟩ : ∃ y, decX b = y := ⟨_, rfl⟩
  rw [hy] at DE RD NN
  clear hx hy
  obtain ⟨s, hs⟩ : ∃ s, optS y = s := ⟨_, rfl⟩
  obtain ⟨f, hf⟩ : ∃ f, optF y = f := ⟨_, rfl⟩
  unfold DSPost at DE RD
  rw [hs, hf] at DE RD
  rw [hs] at NN
  clear hs hf
  have NH := Lib.hid NN
  obtain ⟨S, hS⟩ : ∃ S : ByteArray, ByteArray.mk b.toArray = S := ⟨_, rfl⟩
  have hbs : bs b = .string S := by rw [← hS]; rfl
  have hsz : S.size = b.length := by rw [← hS]; simp [ByteArray.size]
  rw [hbs] at DE RD ⊢
  clear hbs hS NN
  by_cases hbig : 5000 < b.length
  · have d1 : decide (5000 < b.length) = true := decide_eq_true hbig
    have d1' : (5000 : Int) < b.length := by omega
    have d2' : (5000 : Int) < S.size := by omega
    clear hbig
    go_enter Try.func4, Try.ntmps4
    go_wp2_with fail
    refine (exits_any _).mono ?_
    rintro r w2 ⟨rfl, hB2⟩
    have B2 := Lib.hid hB2
    clear hB2
    go_wp2_with fail
    go_ret
    exact ⟨rfl, B2.out⟩
  have d1 : decide (5000 < b.length) = false := decide_eq_false hbig
  have d1' : ¬ (5000 : Int) < b.length := by omega
  have d2' : ¬ (5000 : Int) < S.size := by omega
  have HL := Lib.hid (show b.length ≤ 100000 by omega)
  clear hbig
  go_enter Try.func4, Try.ntmps4
  go_wp2_with fail
  refine (DE.out _ HL.out).mono ?_
  rintro r w1 ⟨vp, vl, vd, rfl, hs1, hB1⟩
  have S1 := Lib.hid (hs1.below (Nat.le_refl _) (below1 w1 (.cells (scrC vp vl vd s) 25)))
  have E1 := Lib.hid (heap_alloc_new w1 (.cells (scrC vp vl vd s) 25))
  have B1 := Lib.hid (hB1.trans ((below1 w1 (.cells (scrC vp vl vd s) 25)).mono hB1.size))
  obtain ⟨a1, c1, rfl⟩ := hs1.p.shape
  obtain ⟨a2, c2, rfl⟩ := slI_shape hs1.l
  obtain ⟨a3, c3, rfl⟩ := slI_shape hs1.d
  have sz1 := hB1.size
  clear hs1 hB1 DE
  unfold scrV
  unfold scrC at S1 E1 B1 ⊢
  go_wp2_with fail
  obtain ⟨W1, hW1⟩ : ∃ x, w1.alloc (.cells #[.int .i64 s.t, .int .i64 s.m, .slice a1 s.ps.length c1, .slice a2 s.pl.length c2, .slice a3 s.dr.length c3] 25) = x := ⟨_, rfl⟩
  obtain ⟨g1, hg1⟩ : ∃ x, w1.heap.size = x := ⟨_, rfl⟩
  rw [hW1] at S1 B1
  rw [hW1, hg1] at E1
  rw [hW1]
  try rw [hg1]
  refine (RD.out _ HL.out).mono ?_
  rintro r w2 ⟨up, ul, ud, rfl, hs2, hB2⟩
  have B3 := (below1 w2 (.cells (scrC up ul ud s) 25))
  have S2 := Lib.hid (hs2.below (Nat.le_refl _) B3)
  have S3 := Lib.hid ((S1.out.below (Nat.le_refl _) hB2).below (Nat.le_refl _) B3)
  have E2 := Lib.hid (heap_alloc_new w2 (.cells (scrC up ul ud s) 25))
  have E3 := Lib.hid ((B3.block _ (Nat.lt_of_lt_of_le (lt_of_heap E1.out) hB2.size)).trans ((hB2.block _ (lt_of_heap E1.out)).trans E1.out))
  have B4 := Lib.hid ((B1.out.trans (hB2.mono B1.out.size)).trans (B3.mono (Nat.le_trans B1.out.size hB2.size)))
  obtain ⟨a4, c4, rfl⟩ := hs2.p.shape
  obtain ⟨a5, c5, rfl⟩ := slI_shape hs2.l
  obtain ⟨a6, c6, rfl⟩ := slI_shape hs2.d
  clear hs2 hB2 RD B3 hW1 hg1 sz1
  unfold scrV
  unfold scrC at S2 S3 E2 E3 B4 ⊢
  obtain ⟨z0, z1, z2, z3, z4⟩ := five_cells E2.out
  obtain ⟨y0, y1, y2, y3, y4⟩ := five_cells E3.out
  have SC := Lib.hid (script_any _ _ _ _ _ _ s s _ S3.out S2.out NH.out.1 NH.out.1 NH.out.2)
  rw [decide_eq_true (rfl : s = s)] at SC
  unfold scrV scrC at SC
  go_wp2_with fail
  refine SC.out.mono ?_
  rintro r w5 ⟨rfl, hB5⟩
  have B5 := Lib.hid (B4.out.trans (hB5.mono B4.out.size))
  clear hB5
  go_wp2_with fail
  refine (exits_any _).mono ?_
  rintro r w6 ⟨rfl, hB6⟩
  have B6 := Lib.hid (B5.out.trans (hB6.mono B5.out.size))
  clear hB6
  go_wp2_with fail
  go_ret
  exact ⟨rfl, B6.out⟩
end Go.Proofs.Ytpefjcmaggimhaa

