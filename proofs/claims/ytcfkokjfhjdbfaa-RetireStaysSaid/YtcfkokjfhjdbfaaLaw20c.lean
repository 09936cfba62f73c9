
/-
  staithelaw20: RetireAll.
-/
import Derived.Test.YtcfkokjfhjdbfaaRetG
namespace Go.Proofs.Ytcfkokjfhjdbfaa
open Go.RowKit
set_option linter.unusedVariables false
set_option linter.unusedSimpArgs false
set_option maxRecDepth 100000

theorem cutsTo_congr {n m : Nat} {f g f' g' : Int → Nat → Int} {ts : List Int} {k : Nat} (hf : ∀ t j, j < n → f t j = f' t j) (hg : ∀ t j, j < m → g t j = g' t j) : cutsTo n m f g ts k = cutsTo n m f' g' ts k := by
  unfold cutsTo
  congr 1
  funext t
  unfold cutF
  rw [cutB_congr (f := f t) (g := g t) (f' := f' t) (g' := g' t) (hf t) (hg t)]
theorem cutsTo_get {n m : Nat} {f g : Int → Nat → Int} {ts : List Int} {k : Nat} (hk : k < ts.length) {c : Int} (h : cutB (ts.getD k 0) n m (f (ts.getD k 0)) (g (ts.getD k 0)) = (c, true)) : (cutsTo n m f g ts ts.length)[(cutsTo n m f g ts k).length]? = some (ts.getD k 0, c) := by
  have e : cutsTo n m f g ts ts.length = cutsTo n m f g ts (k + 1) ++ (ts.drop (k + 1)).filterMap (cutF n m f g) := by
    unfold cutsTo
    rw [← List.filterMap_append, List.take_append_drop, List.take_length]
  rw [e, cutsTo_some hk h]
  simp

theorem owns_two {w : World} {base n : Nat} {e : TypeId} {v : Value} {l : List (Int × Int)} (h : w.ownsRow base e 2 v n (cutCells l)) {j : Nat} {p : Int × Int} (hj : j < n) (hp : l[j]? = some p) : ∃ g cap, v = .slice (some ⟨g, 0, none⟩) n cap ∧ w.cell? ⟨g, j * 2, none⟩ = some (.int .i64 p.1) ∧ w.cell? ⟨g, j * 2 + 1, none⟩ = some (.int .i64 p.2) := by
  rcases h.2 with ⟨rfl, h0⟩ | ⟨g, cap, cur, rfl, _, hg, _, _, hcs, ht⟩
  · omega
  · obtain ⟨h1, h2⟩ := cutCells_at l j p hp
    refine ⟨g, cap, rfl, ?_, ?_⟩
    · rw [← ht, List.getElem?_take_of_lt (by omega)] at h1
      simp only [World.cell?, hg]
      rw [← Array.getElem?_toList]; exact h1
    · rw [← ht, List.getElem?_take_of_lt (by omega)] at h2
      simp only [World.cell?, hg]
      rw [← Array.getElem?_toList]; exact h2

theorem all_law (vt va vb : Value) (ts : List Int) (xs ys : List (List Int)) (w : World) (ht : Src w vt ts) (ha : RowsOf w va xs) (hb : RowsOf w vb ys) :
    Calls Try.prog 5 #[vt, va, vb] w (RetB (.bool true) w) := by
  cases hl : largeB xs ys with
  | true =>
    have HL := Lib.hid hl
    clear hl
    go_enter Try.func5, Try.ntmps5
    go_wp2_with fail
    refine (large_any _ _ xs ys w ha hb).mono ?_
    rintro r w1 ⟨rfl, rfl⟩
    rw [HL.out]
    go_wp2_with fail
    refine (settled_any _).mono ?_
    rintro r w2 ⟨rfl, hB⟩
    go_wp2_with fail
    go_ret
    exact ⟨rfl, hB⟩
  | false =>
    have HL := Lib.hid hl
    obtain ⟨hxl, hyl⟩ := large_len hl
    clear hl
    by_cases hlong : 100 < ts.length
    · have hlong' : (100 : Int) < ts.length := by omega
      obtain ⟨ao, cap, rfl, _⟩ := ht
      go_enter Try.func5, Try.ntmps5
      go_wp2_with fail
      refine (large_any _ _ xs ys w ha hb).mono ?_
      rintro r w1 ⟨rfl, rfl⟩
      rw [HL.out]
      go_wp2_with fail
      refine (settled_any _).mono ?_
      rintro r w2 ⟨rfl, hB⟩
      go_wp2_with fail
      go_ret
      exact ⟨rfl, hB⟩
    have hts : ts.length ≤ 100 := by omega
    have hts' : (ts.length : Int) ≤ 100 := by omega
    have HT := Lib.hid ht
    obtain ⟨ao, cap, rfl, hno, hct⟩ := ht
    have HCT := Lib.hid hct
    clear hno hct hlong
    go_enter Try.func5, Try.ntmps5
    go_wp2_with fail
    refine (large_any _ _ xs ys w ha hb).mono ?_
    rintro r w1 ⟨rfl, rfl⟩
    rw [HL.out]
    have HB := Lib.hid hb
    clear hb
    go_wp2_with fail
    refine (all_any _ xs _ ha hxl).mono ?_
    rintro r w1 ⟨as', nss, F, vC, vW, rfl, hR, hn, hB1⟩
    obtain ⟨ac, cc, rfl⟩ := owns_slice hR.rowC
    obtain ⟨aw, cw, rfl⟩ := owns_slice hR.rowW
    have HR1 := Lib.hid hR
    have BB1 := Lib.hid hB1
    clear hR hB1 ha
    have P1 := BothAt.new w1 (.slice ac as'.length cc) (.slice aw nss.length cw)
    have BA := Lib.hid ((Below.refl w1.heap.size w1).alloc (Nat.le_refl _) (.cells #[.slice ac as'.length cc, .slice aw nss.length cw] 28))
    have BB1' := Lib.hid (BB1.out.alloc BB1.out.size (.cells #[.slice ac as'.length cc, .slice aw nss.length cw] 28))
    go_wp2_with fail
    refine (all_any _ ys _ (HB.out.below (Nat.le_refl _) BB1'.out) hyl).mono ?_
    rintro r w2 ⟨bs', mss, G, vD, vX, rfl, hR, hm, hB2⟩
    obtain ⟨ad, cd, rfl⟩ := owns_slice hR.rowC
    obtain ⟨ax, cx, rfl⟩ := owns_slice hR.rowW
    have P1' := P1.below hB2
    have R1 := Lib.hid ((HR1.out.below BA.out).below hB2)
    have R2 := Lib.hid hR
    have BB2 := Lib.hid (below_trans BB1'.out hB2 BB1'.out.size)
    have d0 := (P1'.below ((Below.refl w2.heap.size w2).alloc (Nat.le_refl _) (.cells #[.slice ad bs'.length cd, .slice ax mss.length cx] 28))).c0
    have PA := Lib.hid P1'
    clear hR hB2 P1 P1' HR1 BA BB1 BB1' HB
    go_wp2_with fail
    obtain ⟨V, hV⟩ : ∃ V, w2.alloc (.cells #[.slice ad bs'.length cd, .slice ax mss.length cx] 28) = V := ⟨_, rfl⟩
    have BV : Below w2.heap.size w2 V := by rw [← hV]; exact (Below.refl _ _).alloc (Nat.le_refl _) _
    have Q1 := PA.out.below BV
    have Q2 : BothAt V w2.heap.size (.slice ad bs'.length cd) (.slice ax mss.length cx) := by rw [← hV]; exact BothAt.new _ _ _
    have T1 := Lib.hid (R1.out.below BV)
    have T2 := Lib.hid (R2.out.below BV)
    have TB := Lib.hid (below_trans BB2.out BV BB2.out.size)
    rw [hV]
    have hel := T1.out.len
    have hel2 := T2.out.len
    clear hV BV R1 R2 BB2 PA d0
    refine (all_of _ _ _ ts as'.length bs'.length _ _ _ _ V (HT.out.below (Nat.le_refl _) TB.out) T1.out.cks T2.out.cks (by omega) (by omega) hts).mono ?_
    rintro r w3 ⟨v, rfl, hown, hB3⟩
    have EQ := cutsTo_congr (n := as'.length) (m := bs'.length) (f := fun t j => at0 (ckOf F as' j).xs t) (g := fun t j => at0 (ckOf G bs' j).xs t) (f' := fun t j => at0 (nss.getD j []) t) (g' := fun t j => at0 (mss.getD j []) t) (ts := ts) (k := ts.length) (fun t j hj => T1.out.at j hj t) (fun t j hj => T2.out.at j hj t)
    rw [EQ] at hown
    clear EQ
    have hw1 := T1.out.ws
    have hw2 := T2.out.ws
    rw [hel] at hw1
    rw [hel2] at hw2
    have W1 := Lib.hid (hw1.below hB3)
    have W2 := Lib.hid (hw2.below hB3)
    have P1 := Lib.hid (Q1.below hB3)
    have P2 := Lib.hid (Q2.below hB3)
    have TB3 := Lib.hid (below_trans TB.out hB3 TB.out.size)
    obtain ⟨L, hL⟩ : ∃ L, cutsTo as'.length bs'.length (fun t j => at0 (nss.getD j []) t) (fun t j => at0 (mss.getD j []) t) ts ts.length = L := ⟨_, rfl⟩
    rw [hL] at hown
    have HLL := Lib.hid hL
    obtain ⟨av, cv, rfl⟩ := owns_slice hown
    have HO := Lib.hid hown
    clear hown hL hB3 Q1 Q2 T1 T2 TB hw1 hw2
    go_wp2_with fail
    go_loopw [36, 10] (fun i q wr => ∃ (k : Nat), k ≤ ts.length ∧ i = .int .i64 k ∧ q = .int .i64 ((cutsTo as'.length bs'.length (fun t j => at0 (nss.getD j []) t) (fun t j => at0 (mss.getD j []) t) ts k).length : Nat) ∧ Below w3.heap.size w3 wr) (fun i _ _ => ts.length - (intOf i).toNat)
    case atStart => exact ⟨0, by omega, rfl, rfl, Below.refl _ _⟩
    case round =>
      obtain ⟨k, hk, rfl, rfl, hB⟩ := hrel
      have BB := Lib.hid hB
      by_cases hlt : k < ts.length
      · have hlt' : (k : Int) < ts.length := by omega
        obtain ⟨g, z, rfl, hcc⟩ := HCT.out (by omega)
        have c00 := hcc k hlt
        have c0 : wr.cell? ⟨g, z + k, none⟩ = some (.int .i64 (ts.getD k 0)) := by
          rw [(below_trans TB3.out hB TB3.out.size).cell (p := ⟨g, z + k, none⟩) (block_lt_of_cell c00)]; exact c00
        have d1 := (P1.out.below hB).c1
        have d3 := (P2.out.below hB).c1
        have Sm := Lib.hid (fun c h => cutsTo_some (n := as'.length) (m := bs'.length) (f := fun t j => at0 (nss.getD j []) t) (g := fun t j => at0 (mss.getD j []) t) (ts := ts) hlt (c := c) h)
        have Gt := Lib.hid (fun c h => cutsTo_get (n := as'.length) (m := bs'.length) (f := fun t j => at0 (nss.getD j []) t) (g := fun t j => at0 (mss.getD j []) t) (ts := ts) hlt (c := c) h)
        have Nn := Lib.hid (fun h => cutsTo_none (n := as'.length) (m := bs'.length) (f := fun t j => at0 (nss.getD j []) t) (g := fun t j => at0 (mss.getD j []) t) (ts := ts) hlt h)
        have LE := Lib.hid (cutsTo_le as'.length bs'.length (fun t j => at0 (nss.getD j []) t) (fun t j => at0 (mss.getD j []) t) ts k)
        obtain ⟨L', hL'⟩ : ∃ L', cutsTo as'.length bs'.length (fun t j => at0 (nss.getD j []) t) (fun t j => at0 (mss.getD j []) t) ts k = L' := ⟨_, rfl⟩
        rw [hL'] at Sm Gt Nn LE ⊢
        rw [HLL.out] at Gt
        obtain ⟨t, ht⟩ : ∃ t, ts.getD k 0 = t := ⟨_, rfl⟩
        rw [ht] at c0 Sm Gt Nn
        have A1 := Lib.hid (W1.out.below hB)
        have A2 := Lib.hid (W2.out.below hB)
        clear hcc c00 hL' ht hB
        go_wp2_with fail
        refine (ref_of t _ _ as'.length bs'.length _ _ wr A1.out A2.out (by omega) (by omega)).mono ?_
        rintro r w4 ⟨rfl, hB4⟩
        have BB4 := below_trans BB.out hB4 BB.out.size
        have B4 := Lib.hid BB4
        clear hB4 c0 d1 d3
        cases hok : (cutB t as'.length bs'.length (fun j => at0 (nss.getD j []) t) (fun j => at0 (mss.getD j []) t)).2 with
        | false =>
          have X := Lib.hid (Nn.out hok)
          obtain ⟨c, hc⟩ : ∃ c, (cutB t as'.length bs'.length (fun j => at0 (nss.getD j []) t) (fun j => at0 (mss.getD j []) t)).1 = c := ⟨_, rfl⟩
          rw [hc]
          clear hok hc BB4
          go_wp2_with fail
          go_roundw
          case rel => exact ⟨k + 1, by omega, by go_num, by rw [X.out], B4.out⟩
          case measure => simp [intOf] <;> omega
        | true =>
          obtain ⟨c, hc⟩ : ∃ c, (cutB t as'.length bs'.length (fun j => at0 (nss.getD j []) t) (fun j => at0 (mss.getD j []) t)).1 = c := ⟨_, rfl⟩
          have hget := Gt.out c (Prod.ext hc hok)
          have hlL : L'.length < L.length := (List.getElem?_eq_some_iff.1 hget).1
          have hlL' : (L'.length : Int) < (L.length : Int) := by omega
          have X := Lib.hid (show (cutsTo as'.length bs'.length (fun t j => at0 (nss.getD j []) t) (fun t j => at0 (mss.getD j []) t) ts (k + 1)).length = L'.length + 1 by rw [Sm.out c (Prod.ext hc hok)]; simp)
          rw [hc]
          obtain ⟨g', cap', e, c1, c2⟩ := owns_two (ownsRow_keep HO.out (keepT_below BB4)) hlL hget
          cases e
          clear hok hc hget BB4
          have hLk : L'.length ≤ 100 := by have := LE.out; omega
          go_wp2_with fail
          refine ⟨⟨k + 1, by omega, by go_num, by rw [X.out]; go_num, B4.out⟩, by simp [intOf] <;> omega⟩
      · have hkn : k = ts.length := by omega
        subst hkn
        rw [HLL.out]
        have TBe := Lib.hid (below_trans TB3.out hB TB3.out.size)
        clear hlt hB
        go_wp2_with fail
        refine (settled_any _).mono ?_
        rintro r w7 ⟨rfl, hB7⟩
        go_wp2_with fail
        go_ret
        exact ⟨rfl, below_trans TBe.out hB7 TBe.out.size⟩

end Go.Proofs.Ytcfkokjfhjdbfaa

