
/-
  staithelaw20: RetireFewer.
-/
import Derived.Test.YtcfkokjfhjdbfaaLaw20
namespace Go.Proofs.Ytcfkokjfhjdbfaa
open Go.RowKit
set_option linter.unusedVariables false
set_option linter.unusedSimpArgs false
set_option maxRecDepth 100000

theorem cutB_of {t : Int} {n m : Nat} {f g : Nat → Int} (hin : (0 ≤ t ∧ t < 256) ∧ 0 < n) (h1 : ∀ j, j < n → f j = f 0) (h2 : ∀ j, j < m → g j ≤ f 0) : cutB t n m f g = (f 0, true) := by
  rw [cutB_in hin, show anyTo n (fun j => f j != f 0) = false from decide_eq_false (fun ⟨j, hj, e⟩ => by simp [h1 j hj] at e), show anyTo m (fun j => decide (f 0 < g j)) = false from decide_eq_false (fun ⟨j, hj, e⟩ => by
    have := h2 j hj
    have := of_decide_eq_true e
    omega)]
  rfl
theorem cutB_true {t : Int} {n m : Nat} {f g : Nat → Int} (h : (cutB t n m f g).2 = true) : ((0 ≤ t ∧ t < 256) ∧ 0 < n) ∧ (∀ j, j < n → f j = f 0) ∧ (∀ j, j < m → g j ≤ f 0) := by
  by_cases hin : (0 ≤ t ∧ t < 256) ∧ 0 < n
  · rw [cutB_in hin] at h
    refine ⟨hin, fun j hj => ?_, fun j hj => ?_⟩
    · by_cases he : f j = f 0
      · exact he
      · rw [show anyTo n (fun j => f j != f 0) = true from decide_eq_true ⟨j, hj, by simpa using he⟩] at h
        simp at h
    · by_cases hlt : f 0 < g j
      · rw [show anyTo m (fun j => decide (f 0 < g j)) = true from decide_eq_true ⟨j, hj, decide_eq_true hlt⟩] at h
        simp at h
      · omega
  · rw [cutB_out hin] at h
    cases h

theorem owns_cap {w : World} {base size n cap : Nat} {ao : Option Addr} {e : TypeId} {xs : List Value} (h : w.ownsRow base e size (.slice ao n cap) n xs) : n ≤ cap := by
  rcases h.2 with ⟨he, rfl⟩ | ⟨g, c, _, he, _, _, hle, _⟩
  · omega
  · cases he; exact hle

theorem CksOf.tail {w : World} {ao : Option Addr} {cap n : Nat} {bs : Nat → Nat} {ks : Nat → Ck} (h : CksOf w (.slice ao n cap) n bs ks) (hp : 1 < n) : ∃ b o, ao = some ⟨b, o, none⟩ ∧ ∀ c, CksOf w (.slice (some ⟨b, o + 1, none⟩) (n - 1) c) (n - 1) (fun j => bs (j + 1)) (fun j => ks (j + 1)) := by
  obtain ⟨_, _, e, hc⟩ := h
  cases e
  obtain ⟨b, o, rfl, hd⟩ := hc (by omega)
  refine ⟨b, o, rfl, fun c => ⟨_, _, rfl, fun _ => ⟨b, o + 1, rfl, fun j hj => ?_⟩⟩⟩
  have := hd (j + 1) (by omega)
  rw [show o + 1 + j = o + (j + 1) by omega]
  exact this

theorem fewer_law (t : Int) (va vb : Value) (xs ys : List (List Int)) (w : World) (ha : RowsOf w va xs) (hb : RowsOf w vb ys) :
    Calls Try.prog 4 #[.int .i64 t, va, vb] w (RetB (.bool true) w) := by
  cases hl : largeB xs ys with
  | true =>
    have HL := Lib.hid hl
    clear hl
    go_enter Try.func4, Try.ntmps4
    go_wp2_with fail
    refine (large_any _ _ xs ys w ha hb).mono ?_
    rintro r w1 ⟨rfl, rfl⟩
    rw [HL.out]
    go_wp2_with fail
    refine (settled_any _).mono ?_
    rintro r w2 ⟨rfl, hB⟩
    go_wp2_with fail
    go_ret
    exact ⟨rfl, hB⟩
  | false =>
    have HL := Lib.hid hl
    obtain ⟨hxl, hyl⟩ := large_len hl
    clear hl
    go_enter Try.func4, Try.ntmps4
    go_wp2_with fail
    refine (large_any _ _ xs ys w ha hb).mono ?_
    rintro r w1 ⟨rfl, rfl⟩
    rw [HL.out]
    have HB := Lib.hid hb
    clear hb
    go_wp2_with fail
    refine (all_any _ xs _ ha hxl).mono ?_
    rintro r w1 ⟨as', nss, F, vC, vW, rfl, hR, hn, hB1⟩
    obtain ⟨ac, cc, rfl⟩ := owns_slice hR.rowC
    obtain ⟨aw, cw, rfl⟩ := owns_slice hR.rowW
    have HR1 := Lib.hid hR
    have BB1 := Lib.hid hB1
    clear hR hB1 ha
    have P1 := BothAt.new w1 (.slice ac as'.length cc) (.slice aw nss.length cw)
    have BA := Lib.hid ((Below.refl w1.heap.size w1).alloc (Nat.le_refl _) (.cells #[.slice ac as'.length cc, .slice aw nss.length cw] 28))
    have BB1' := Lib.hid (BB1.out.alloc BB1.out.size (.cells #[.slice ac as'.length cc, .slice aw nss.length cw] 28))
    go_wp2_with fail
    refine (all_any _ ys _ (HB.out.below (Nat.le_refl _) BB1'.out) hyl).mono ?_
    rintro r w2 ⟨bs', mss, G, vD, vX, rfl, hR, hm, hB2⟩
    obtain ⟨ad, cd, rfl⟩ := owns_slice hR.rowC
    obtain ⟨ax, cx, rfl⟩ := owns_slice hR.rowW
    have P1' := P1.below hB2
    have R1 := Lib.hid ((HR1.out.below BA.out).below hB2)
    have R2 := Lib.hid hR
    have BB2 := Lib.hid (below_trans BB1'.out hB2 BB1'.out.size)
    have d0 := (P1'.below ((Below.refl w2.heap.size w2).alloc (Nat.le_refl _) (.cells #[.slice ad bs'.length cd, .slice ax mss.length cx] 28))).c0
    have PA := Lib.hid P1'
    clear hR hB2 P1 P1' HR1 BA BB1 BB1' HB
    go_wp2_with fail
    obtain ⟨V, hV⟩ : ∃ V, w2.alloc (.cells #[.slice ad bs'.length cd, .slice ax mss.length cx] 28) = V := ⟨_, rfl⟩
    have BV : Below w2.heap.size w2 V := by rw [← hV]; exact (Below.refl _ _).alloc (Nat.le_refl _) _
    have Q1 := PA.out.below BV
    have Q2 : BothAt V w2.heap.size (.slice ad bs'.length cd) (.slice ax mss.length cx) := by rw [← hV]; exact BothAt.new _ _ _
    have T1 := Lib.hid (R1.out.below BV)
    have T2 := Lib.hid (R2.out.below BV)
    have TB := Lib.hid (below_trans BB2.out BV BB2.out.size)
    rw [hV]
    have hel := T1.out.len
    have hel2 := T2.out.len
    clear hV BV R1 R2 BB2 PA d0
    refine (of_cut t _ _ as'.length bs'.length _ _ _ _ V T1.out.cks T2.out.cks (by omega) (by omega)).mono ?_
    rintro r w3 ⟨rfl, hB3⟩
    have Q1' := Q1.below hB3
    have Q2' := Q2.below hB3
    have d1 := Q1'.c1
    have d3 := Q2'.c1
    have T1' := Lib.hid (T1.out.below hB3)
    have T2' := Lib.hid (T2.out.below hB3)
    have TB' := Lib.hid (below_trans TB.out hB3 TB.out.size)
    have P1 := Lib.hid Q1'
    have P2 := Lib.hid Q2'
    have d0 := Q1'.c0
    have d2 := Q2'.c0
    clear hB3 Q1 Q2 Q1' Q2' T1 T2 TB d1 d3
    cases hok : (cutB t as'.length bs'.length (fun j => at0 (ckOf F as' j).xs t) (fun j => at0 (ckOf G bs' j).xs t)).2 with
    | false =>
      obtain ⟨c, hc⟩ : ∃ c, (cutB t as'.length bs'.length (fun j => at0 (ckOf F as' j).xs t) (fun j => at0 (ckOf G bs' j).xs t)).1 = c := ⟨_, rfl⟩
      rw [hc]
      clear hc hok
      go_wp2_with fail
      refine (settled_any _).mono ?_
      rintro r w7 ⟨rfl, hB7⟩
      go_wp2_with fail
      go_ret
      exact ⟨rfl, below_trans TB'.out hB7 TB'.out.size⟩
    | true =>
      obtain ⟨hin, hall, hheld⟩ := cutB_true hok
      have E1 := Lib.hid (cutB_of hin hall hheld)
      rw [E1.out]
      obtain ⟨c, hc⟩ : ∃ c, at0 (ckOf F as' 0).xs t = c := ⟨_, rfl⟩
      rw [hc]
      have HC := Lib.hid hc
      have HALL := Lib.hid hall
      have HHELD := Lib.hid hheld
      clear hc E1 hall hheld hok
      by_cases hlt : as'.length < 2
      · have hlt' : (as'.length : Int) < 2 := by omega
        go_wp2_with fail
        refine (settled_any _).mono ?_
        rintro r w7 ⟨rfl, hB7⟩
        go_wp2_with fail
        go_ret
        exact ⟨rfl, below_trans TB'.out hB7 TB'.out.size⟩
      · have hge' : ¬ (as'.length : Int) < 2 := by omega
        obtain ⟨g, z, hac, htail⟩ := T1'.out.cks.tail (by omega)
        have hcap := owns_cap T1'.out.rowC
        subst hac
        have HT := Lib.hid htail
        have i1 : (1 : Int) ≤ (as'.length : Int) := by omega
        have i2 : (as'.length : Int) ≤ (cc : Int) := by omega
        have i3 : (1 : Int) ≤ (cc : Int) := by omega
        have i4 : 1 ≤ as'.length := by omega
        have i5 : 1 ≤ cc := by omega
        have i6 : ¬ cc = 1 := by omega
        have i7 := Lib.hid (show as'.length - 1 ≤ 1000 by omega)
        have i8 := Lib.hid (show bs'.length ≤ 1000 by omega)
        clear htail
        have hBB := Below.refl w3.heap.size w3
        go_wp2_with fail
        go_region_held3 (fun w' => w'.cell? ⟨w1.heap.size, 0, none⟩ = some (.slice (some ⟨g, z, none⟩) as'.length cc) ∧ w'.cell? ⟨w2.heap.size, 0, none⟩ = some (.slice ad bs'.length cd) ∧ Below w3.heap.size w3 w')
          (first | (simp [*]; done) | (refine ⟨by simp [*], by simp [*], ?_⟩; first | exact hBB.drew | assumption))
          (first | (go_at_call 10; refine (of_cut t _ _ (as'.length - 1) bs'.length _ _ _ _ _ ((HT.out _).below hBB.drew) (T2'.out.cks.below hBB.drew) i7.out i8.out).mono ?_; rintro r w4 ⟨rfl, hB4⟩; have hBw := below_trans hBB.drew hB4 (Nat.le_refl _); have hd0 := (P1.out.below hBw).c0; have hd2 := (P2.out.below hBw).c0))
        have E2 : cutB t (as'.length - 1) bs'.length (fun j => at0 (ckOf F as' (j + 1)).xs t) (fun j => at0 (ckOf G bs' j).xs t) = (c, true) := by
          have h01 : at0 (ckOf F as' 1).xs t = c := by rw [← HC.out]; exact HALL.out 1 (by omega)
          rw [cutB_of ⟨hin.1, by omega⟩ (fun j hj => (HALL.out (j + 1) (by omega)).trans (HALL.out 1 (by omega)).symm) (fun j hj => by
            have := HHELD.out j hj
            show _ ≤ at0 (ckOf F as' 1).xs t
            rw [h01, ← HC.out]; exact this)]
          show (at0 (ckOf F as' 1).xs t, true) = _
          rw [h01]
        have E3 := Lib.hid (show cutB t as'.length 0 (fun j => at0 (ckOf F as' j).xs t) (fun j => at0 (Ck.xs ⟨0, [], false⟩) t) = (c, true) by
          rw [cutB_of hin HALL.out (fun j hj => by omega)]
          show (at0 (ckOf F as' 0).xs t, true) = _
          rw [HC.out])
        rw [E2]
        have T3 := Lib.hid (T1'.out.below hBw)
        have TB3 := Lib.hid (below_trans TB'.out hBw TB'.out.size)
        clear E2 hB4 hBw hd2 T1' T2' TB' P1 P2 hBB
        go_wp2_with fail
        refine (of_cut t _ (.slice none 0 0) as'.length 0 _ _ (fun _ => 0) (fun _ => ⟨0, [], false⟩) w4 T3.out.cks ⟨none, 0, rfl, fun hp => by omega⟩ (by omega) (by omega)).mono ?_
        rintro r w5 ⟨rfl, hB5⟩
        rw [E3.out]
        have TB5 := Lib.hid (below_trans TB3.out hB5 TB3.out.size)
        clear hB5 T3 TB3 hd0
        go_wp2_with fail
        refine (settled_any _).mono ?_
        rintro r w7 ⟨rfl, hB7⟩
        go_wp2_with fail
        go_ret
        exact ⟨rfl, below_trans TB5.out hB7 TB5.out.size⟩

end Go.Proofs.Ytcfkokjfhjdbfaa

