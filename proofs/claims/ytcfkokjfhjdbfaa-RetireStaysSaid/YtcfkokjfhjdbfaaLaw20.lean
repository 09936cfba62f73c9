
/-
  staithelaw20: RetireOf.
-/
import Derived.Test.YtcfkokjfhjdbfaaRetF
namespace Go.Proofs.Ytcfkokjfhjdbfaa
open Go.RowKit
set_option linter.unusedVariables false
set_option linter.unusedSimpArgs false
set_option maxRecDepth 100000

theorem large_len {xs ys : List (List Int)} (h : largeB xs ys = false) : xs.length ≤ 60 ∧ ys.length ≤ 60 := by
  unfold largeB at h
  simp at h
  exact h.1

theorem anyTo_congr {n : Nat} {p q : Nat → Bool} (h : ∀ j, j < n → p j = q j) : anyTo n p = anyTo n q := by
  unfold anyTo
  apply decide_eq_decide.2
  exact ⟨fun ⟨j, hj, e⟩ => ⟨j, hj, (h j hj) ▸ e⟩, fun ⟨j, hj, e⟩ => ⟨j, hj, (h j hj).symm ▸ e⟩⟩
theorem cutB_congr {t : Int} {n m : Nat} {f g f' g' : Nat → Int} (hf : ∀ j, j < n → f j = f' j) (hg : ∀ j, j < m → g j = g' j) : cutB t n m f g = cutB t n m f' g' := by
  by_cases hin : (0 ≤ t ∧ t < 256) ∧ 0 < n
  · rw [cutB_in hin, cutB_in hin, hf 0 hin.2, anyTo_congr (fun j hj => by rw [hf j hj]), anyTo_congr (p := fun j => decide (f' 0 < g j)) (fun j hj => by rw [hg j hj])]
  · rw [cutB_out hin, cutB_out hin]
theorem maxTo_congr {f g : Nat → Int} : ∀ n, (∀ j, j < n → f j = g j) → maxTo f n = maxTo g n
  | 0, _ => rfl
  | n + 1, h => by rw [maxTo, maxTo, maxTo_congr n (fun j hj => h j (by omega)), h n (by omega)]

/-- A block that holds both rows. -/
def BothAt (w : World) (p : Nat) (vC vW : Value) : Prop := w.heap[p]? = some (Obj.cells #[vC, vW] 28 (0, 0))
theorem BothAt.below {w w' : World} {p : Nat} {vC vW : Value} (h : BothAt w p vC vW) (hB : Below w.heap.size w w') : BothAt w' p vC vW := by
  unfold BothAt
  rw [hB.block _ (lt_of_heap h)]; exact h
theorem BothAt.new (w : World) (vC vW : Value) : BothAt (w.alloc (.cells #[vC, vW] 28)) w.heap.size vC vW := heap_alloc_new w _
theorem BothAt.c0 {w : World} {p : Nat} {vC vW : Value} (h : BothAt w p vC vW) : w.cell? ⟨p, 0, none⟩ = some vC := by simp only [World.cell?, show w.heap[p]? = _ from h]; rfl
theorem BothAt.c1 {w : World} {p : Nat} {vC vW : Value} (h : BothAt w p vC vW) : w.cell? ⟨p, 1, none⟩ = some vW := by simp only [World.cell?, show w.heap[p]? = _ from h]; rfl

theorem of_law (t : Int) (va vb : Value) (xs ys : List (List Int)) (w : World) (ha : RowsOf w va xs) (hb : RowsOf w vb ys) :
    Calls Try.prog 3 #[.int .i64 t, va, vb] w (RetB (.bool true) w) := by
  cases hl : largeB xs ys with
  | true =>
    have HL := Lib.hid hl
    clear hl
    go_enter Try.func3, Try.ntmps3
    go_wp2_with fail
    refine (large_any _ _ xs ys w ha hb).mono ?_
    rintro r w1 ⟨rfl, rfl⟩
    rw [HL.out]
    go_wp2_with fail
    refine (settled_any _).mono ?_
    rintro r w2 ⟨rfl, hB⟩
    go_wp2_with fail
    go_ret
    exact ⟨rfl, hB⟩
  | false =>
    have HL := Lib.hid hl
    obtain ⟨hxl, hyl⟩ := large_len hl
    clear hl
    go_enter Try.func3, Try.ntmps3
    go_wp2_with fail
    refine (large_any _ _ xs ys w ha hb).mono ?_
    rintro r w1 ⟨rfl, rfl⟩
    rw [HL.out]
    have HB := Lib.hid hb
    clear hb
    go_wp2_with fail
    refine (all_any _ xs _ ha hxl).mono ?_
    rintro r w1 ⟨as', nss, F, vC, vW, rfl, hR, hn, hB1⟩
    obtain ⟨ac, cc, rfl⟩ := owns_slice hR.rowC
    obtain ⟨aw, cw, rfl⟩ := owns_slice hR.rowW
    have HR1 := Lib.hid hR
    have BB1 := Lib.hid hB1
    clear hR hB1 ha
    have P1 := BothAt.new w1 (.slice ac as'.length cc) (.slice aw nss.length cw)
    have BA := Lib.hid ((Below.refl w1.heap.size w1).alloc (Nat.le_refl _) (.cells #[.slice ac as'.length cc, .slice aw nss.length cw] 28))
    have BB1' := Lib.hid (BB1.out.alloc BB1.out.size (.cells #[.slice ac as'.length cc, .slice aw nss.length cw] 28))
    go_wp2_with fail
    refine (all_any _ ys _ (HB.out.below (Nat.le_refl _) BB1'.out) hyl).mono ?_
    rintro r w2 ⟨bs', mss, G, vD, vX, rfl, hR, hm, hB2⟩
    obtain ⟨ad, cd, rfl⟩ := owns_slice hR.rowC
    obtain ⟨ax, cx, rfl⟩ := owns_slice hR.rowW
    have P1' := P1.below hB2
    have R1 := Lib.hid ((HR1.out.below BA.out).below hB2)
    have R2 := Lib.hid hR
    have BB2 := Lib.hid (below_trans BB1'.out hB2 BB1'.out.size)
    have d0 := (P1'.below ((Below.refl w2.heap.size w2).alloc (Nat.le_refl _) (.cells #[.slice ad bs'.length cd, .slice ax mss.length cx] 28))).c0
    have PA := Lib.hid P1'
    clear hR hB2 P1 P1' HR1 BA BB1 BB1' HB
    go_wp2_with fail
    obtain ⟨V, hV⟩ : ∃ V, w2.alloc (.cells #[.slice ad bs'.length cd, .slice ax mss.length cx] 28) = V := ⟨_, rfl⟩
    have BV : Below w2.heap.size w2 V := by rw [← hV]; exact (Below.refl _ _).alloc (Nat.le_refl _) _
    have Q1 := PA.out.below BV
    have Q2 : BothAt V w2.heap.size (.slice ad bs'.length cd) (.slice ax mss.length cx) := by rw [← hV]; exact BothAt.new _ _ _
    have T1 := Lib.hid (R1.out.below BV)
    have T2 := Lib.hid (R2.out.below BV)
    have TB := Lib.hid (below_trans BB2.out BV BB2.out.size)
    rw [hV]
    have hel := T1.out.len
    have hel2 := T2.out.len
    clear hV BV R1 R2 BB2 PA d0
    refine (of_cut t _ _ as'.length bs'.length _ _ _ _ V T1.out.cks T2.out.cks (by omega) (by omega)).mono ?_
    rintro r w3 ⟨rfl, hB3⟩
    have Q1' := Q1.below hB3
    have Q2' := Q2.below hB3
    have d1 := Q1'.c1
    have d3 := Q2'.c1
    have E := Lib.hid (cutB_congr (t := t) (n := as'.length) (m := bs'.length) (f := fun j => at0 (ckOf F as' j).xs t) (g := fun j => at0 (ckOf G bs' j).xs t) (f' := fun j => at0 (nss.getD j []) t) (g' := fun j => at0 (mss.getD j []) t) (fun j hj => T1.out.at j hj t) (fun j hj => T2.out.at j hj t))
    have T1' := Lib.hid (T1.out.below hB3)
    have T2' := Lib.hid (T2.out.below hB3)
    have TB' := Lib.hid (below_trans TB.out hB3 TB.out.size)
    have P1 := Lib.hid Q1'
    clear hB3 Q1 Q2 Q1' Q2' T1 T2 TB
    rw [E.out]
    obtain ⟨C, hC⟩ : ∃ C, cutB t as'.length bs'.length (fun j => at0 (nss.getD j []) t) (fun j => at0 (mss.getD j []) t) = C := ⟨_, rfl⟩
    rw [hC]
    go_wp2_with fail
    refine (ref_of t _ _ as'.length bs'.length _ _ w3 (by have := T1'.out.ws; rw [hel] at this; exact this) (by have := T2'.out.ws; rw [hel2] at this; exact this) (by omega) (by omega)).mono ?_
    rintro r w4 ⟨rfl, hB4⟩
    rw [hC]
    have T1 := Lib.hid (T1'.out.below hB4)
    have TB := Lib.hid (below_trans TB'.out hB4 TB'.out.size)
    have P2 := Lib.hid (P1.out.below hB4)
    have d4 := P2.out.c1
    have hws := T1.out.ws
    rw [hel] at hws
    have HW := Lib.hid hws
    have MX := Lib.hid (maxTo_congr (f := fun j => at0 (ckOf F as' j).xs t) (g := fun j => at0 (nss.getD j []) t) as'.length (fun j hj => T1.out.at j hj t))
    clear hC E T1' T2' TB' P1 hB4 d1 d3 hws
    obtain ⟨Z0, hZ0⟩ : ∃ Z, (ints zeros).toArray = Z := ⟨_, rfl⟩
    have hz := (zero_of_info rinfo).1
    rw [hZ0] at hz
    have HZ0 := Lib.hid hZ0
    clear hZ0
    go_wp2_with fail
    go_loopw [45, 13] (fun i q wr => ∃ (k : Nat), k ≤ as'.length ∧ i = .int .i64 k ∧ q = .int .i64 (maxTo (fun j => at0 (nss.getD j []) t) k) ∧ Below w4.heap.size w4 wr) (fun i _ _ => as'.length - (intOf i).toNat)
    case atStart => exact ⟨0, by omega, rfl, rfl, Below.refl _ _⟩
    case round =>
      obtain ⟨k, hk, rfl, rfl, hB⟩ := hrel
      have BB := Lib.hid hB
      obtain ⟨M, hM⟩ : ∃ M, maxTo (fun j => at0 (nss.getD j []) t) k = M := ⟨_, rfl⟩
      rw [hM]
      by_cases hlt : k < as'.length
      · have hlt' : (k : Int) < as'.length := by omega
        obtain ⟨g, rfl, hl, hr⟩ := HW.out.at k hlt
        obtain ⟨row, hrow⟩ : ∃ row, nss.getD k [] = row := ⟨_, rfl⟩
        have XR : at0 (nss.getD k []) t = at0 row t := by rw [hrow]
        have hl : (nss.getD k []).length = 256 := hl
        have hr : w4.rangeAt g (k * 256) (ints (nss.getD k [])) := hr
        rw [hrow] at hl hr
        have HR' := Lib.hid (range_below hr hB)
        have HL2 := Lib.hid hl
        obtain ⟨x, hx⟩ : ∃ x, at0 row t = x := ⟨_, rfl⟩
        have X := Lib.hid (show maxTo (fun j => at0 (nss.getD j []) t) (k + 1) = if M < x then x else M by
          rw [maxTo, hM]
          show max M (at0 (nss.getD k []) t) = _
          rw [XR, hx]; split <;> omega)
        obtain ⟨Z, hZ⟩ : ∃ Z, (ints row).toArray = Z := ⟨_, rfl⟩
        have HZ := Lib.hid hZ
        clear hZ hr hl hB hM XR hrow
        go_wp2_with (first
          | (with_reducible refine wpList_load_at rfl (.tmp 47) rfl g (k * 256) row ?lx Z HZ.out HL2.out HR'.out ?_)
          | (with_reducible refine wpList_store_clock rfl (.tmp 15) (.tmp 48) rfl wr.heap.size zeros row ?sx Z ?sy HZ.out (rat_new' wr Z0 HZ0.out) HL2.out ?_))
        case lx => rfl
        case sx => rfl
        case sy => rfl
        intro w5 R5 T5
        have B5 := Lib.hid (below_trans BB.out (T5.below ((Below.refl wr.heap.size wr).alloc (Nat.le_refl _) (.cells Z0 35)) (Nat.le_refl _) (fun i e => by rw [e]; exact Nat.le_refl _)) BB.out.size)
        clear T5
        have XX := Lib.hid hx
        clear hx
        go_wp2_with fail
        refine (rget_any wr.heap.size _ t w5 R5).mono ?_
        rintro r w6 ⟨rfl, rfl⟩
        rw [XX.out]
        by_cases hc : M < x
        · have X' := Lib.hid (X.out.trans (if_pos hc))
          clear X
          go_wp2_with fail
          refine (rget_any wr.heap.size _ t w5 R5).mono ?_
          rintro r w6 ⟨rfl, rfl⟩
          rw [XX.out]
          go_wp2_with fail
          go_roundw
          case rel => exact ⟨k + 1, by omega, by go_num, by rw [X'.out], B5.out⟩
          case measure => simp [intOf] <;> omega
        · have X' := Lib.hid (X.out.trans (if_neg hc))
          clear X
          go_wp2_with fail
          go_roundw
          case rel => exact ⟨k + 1, by omega, by go_num, by rw [X'.out], B5.out⟩
          case measure => simp [intOf] <;> omega
      · have hkn : k = as'.length := by omega
        subst hkn
        have T3 := Lib.hid (T1.out.below hB)
        have d5 := (P2.out.below hB).c0
        have MX' := Lib.hid (MX.out.trans hM)
        have TB3 := Lib.hid (below_trans TB.out hB TB.out.size)
        clear hlt hB hM
        go_wp2_with fail
        refine (greatest_any t _ as'.length _ _ wr T3.out.cks (by omega)).mono ?_
        rintro r w6 ⟨rfl, q, rfl⟩
        rw [MX'.out]
        go_wp2_with fail
        refine (settled_any _).mono ?_
        rintro r w7 ⟨rfl, hB7⟩
        go_wp2_with fail
        go_ret
        exact ⟨rfl, below_trans (below_drewN TB3.out q) hB7 TB3.out.size⟩

end Go.Proofs.Ytcfkokjfhjdbfaa

