
/-
  staitheref18: Retire, New.
-/
import Derived.Test.YtkcnbkdpjlpppaaRcC
import Derived.Deep.DeepCutAuto
namespace Go.Proofs.Ytkcnbkdpjlpppaa
open Go.RowKit
set_option linter.unusedVariables false
set_option linter.unusedSimpArgs false
set_option maxRecDepth 100000

theorem rret_bad (v : Value) (tid cut : Int) (w : World) (h : retBad tid cut = true) : Calls Try.prog 49 #[v, .int .i64 tid, .int .i64 cut] w fun r w' => r = .returned (.int .i64 1) ∧ w = w' := by
  have hh : tid < 0 ∨ (¬ tid < 0 ∧ 255 < tid) ∨ (¬ tid < 0 ∧ ¬ 255 < tid ∧ cut < 0) ∨ (¬ tid < 0 ∧ ¬ 255 < tid ∧ ¬ cut < 0 ∧ 1048576 < cut) := by
    rcases ret_bad_cases h with h1 | ⟨h1, h2⟩ | ⟨h1, h2, h3⟩ | ⟨h1, h2, h3, h4⟩ <;> omega
  clear h
  rcases hh with h1 | ⟨h1, h2⟩ | ⟨h1, h2, h3⟩ | ⟨h1, h2, h3, h4⟩ <;> (
    go_enter Try.func49, Try.ntmps49
    go_wp2_with fail
    go_ret
    exact ⟨rfl, rfl⟩)

/-- What the last write is behind a retiring. -/
def retW (m : M18) (tid : Nat) (cut : Int) : Int × Int × Bool × Bool := if m.no = false ∧ m.ta = false ∧ m.t = tid then (if m.n ≤ cut then (0, 0, true, false) else (0, 0, false, true)) else (m.t, m.n, m.no, m.ta)
def retM (m : M18) (tid : Nat) (cut : Int) : M18 := ⟨(retW m tid cut).1, (retW m tid cut).2.1, (retW m tid cut).2.2.1, (retW m tid cut).2.2.2, m.rd.set tid 0, m.tl || decide (cut < m.rd.getD tid 0)⟩
def RRetPost (b o : Nat) (m : M18) (tid : Nat) (cut : Int) (w : World) (r : Ending) (w' : World) : Prop :=
  r = .returned (.int .i64 0) ∧ R18 w' b o (retM m tid cut) ∧ Only b o 261 w w'
theorem ret_tail {b o : Nat} {m : M18} {tid : Nat} {cut : Int} {w wx : World} {t n : Int} {no ta : Bool} (h : R18 wx b o ⟨t, n, no, ta, m.rd, m.tl⟩) (ho : Only b o 261 w wx) (hw : retW m tid cut = (t, n, no, ta)) (ht : tid < 256) :
    ∀ w', (w' = (if cut < m.rd.getD tid 0 then (wx.setCell ⟨b, o + 260, none⟩ (.bool true)) else wx).setCell ⟨b, o + 4 + tid, none⟩ (.int .i64 0)) → RRetPost b o m tid cut w (.returned (.int .i64 0)) w' := by
  rintro w' rfl
  refine ⟨rfl, ?_, ?_⟩
  · unfold retM
    rw [hw]
    dsimp only
    by_cases hc : cut < m.rd.getD tid 0
    · rw [if_pos hc, decide_eq_true hc, Bool.or_true]
      exact (h.set_tl true).set_rd tid ht 0
    · rw [if_neg hc, decide_eq_false hc, Bool.or_false]
      exact h.set_rd tid ht 0
  · refine Only.trans ?_ (by rw [Nat.add_assoc]; exact Only.of_set _ (by omega))
    split
    · exact ho.trans (Only.of_set (t := 260) _ (by omega))
    · exact ho
set_option maxHeartbeats 2000000 in
theorem rret_any (b o : Nat) (m : M18) (tid : Nat) (cut : Int) (w : World) (h : R18 w b o m) (ht : tid < 256) (h0 : 0 ≤ cut) (h1 : cut ≤ 1048576) :
    Calls Try.prog 49 #[.pointer (some ⟨b, o, none⟩), .int .i64 tid, .int .i64 cut] w (RRetPost b o m tid cut w) := by
  obtain ⟨mt, mn, mno, mta, rd, mtl⟩ := m
  have H := Lib.hid h
  have c0 := h.c0
  have c1 := h.c1
  have c2 := h.c2
  have c3 := h.c3
  have c4 := h.cr tid ht
  have c5 := h.ct
  have ff := h.fz
  have f0 := ff o
  have f1 := ff (o + 1)
  have f2 := ff (o + 2)
  have f3 := ff (o + 3)
  have f4 := ff (o + 4 + tid)
  have f5 := ff (o + 260)
  dsimp only at c0 c1 c2 c3 c4 c5
  obtain ⟨u, hu⟩ : ∃ u, rd.getD tid 0 = u := ⟨_, rfl⟩
  have HU := Lib.hid hu
  rw [hu] at c4
  have b1 : ¬ ((tid : Int) < 0) := by omega
  have b2 : ¬ (255 < (tid : Int)) := by omega
  have b3 : ¬ (cut < 0) := by omega
  have b4 : ¬ (1048576 < cut) := by omega
  have bt : (tid : Int) < 256 := by omega
  have HT := Lib.hid ht
  clear h ff hu ht h0 h1
  -- the rest, behind the last write
  have REST := Lib.hid (show ∀ (wx : World) (t n : Int) (no ta : Bool), R18 wx b o ⟨t, n, no, ta, rd, mtl⟩ → Only b o 261 w wx → retW ⟨mt, mn, mno, mta, rd, mtl⟩ tid cut = (t, n, no, ta) →
      (cut < u → RRetPost b o ⟨mt, mn, mno, mta, rd, mtl⟩ tid cut w (.returned (.int .i64 0)) ((wx.setCell ⟨b, o + 260, none⟩ (.bool true)).setCell ⟨b, o + 4 + tid, none⟩ (.int .i64 0))) ∧
      (¬ cut < u → RRetPost b o ⟨mt, mn, mno, mta, rd, mtl⟩ tid cut w (.returned (.int .i64 0)) (wx.setCell ⟨b, o + 4 + tid, none⟩ (.int .i64 0))) from fun wx t n no ta h1 h2 h3 =>
    ⟨fun hc => ret_tail h1 h2 h3 HT.out _ (by dsimp only; rw [HU.out, if_pos hc]), fun hc => ret_tail h1 h2 h3 HT.out _ (by dsimp only; rw [HU.out, if_neg hc])⟩)
  cases mno with
  | true =>
    have X1 := Lib.hid H.out
    have X2 := Lib.hid (Only.refl b o 261 w)
    have V := Lib.hid (REST.out _ _ _ _ _ X1.out X2.out (by unfold retW; rw [if_neg (by simp)]))
    go_enter Try.func49, Try.ntmps49
    go_upto_region 7 with fail
    by_cases hcu : cut < u
    · have Z := Lib.hid (V.out.1 hcu)
      go_wp2_with fail
      go_ret
      exact Z.out
    · have Z := Lib.hid (V.out.2 hcu)
      go_wp2_with fail
      go_ret
      exact Z.out
  | false =>
    cases mta with
    | true =>
      have X1 := Lib.hid H.out
      have X2 := Lib.hid (Only.refl b o 261 w)
      have V := Lib.hid (REST.out _ _ _ _ _ X1.out X2.out (by unfold retW; rw [if_neg (by simp)]))
      go_enter Try.func49, Try.ntmps49
      go_upto_region 7 with fail
      by_cases hcu : cut < u
      · have Z := Lib.hid (V.out.1 hcu)
        go_wp2_with fail
        go_ret
        exact Z.out
      · have Z := Lib.hid (V.out.2 hcu)
        go_wp2_with fail
        go_ret
        exact Z.out
    | false =>
      by_cases htt : mt = (tid : Int)
      · have htt' : (mt == (tid : Int)) = true := by simp [htt]
        by_cases hnc : mn ≤ cut
        · have X1 := Lib.hid (H.out.set_w 0 0 true false)
          have X2 := Lib.hid (only_w (w := w) (b := b) (o := o) (.int .i64 0) (.int .i64 0) (.bool true) (.bool false))
          have V := Lib.hid (REST.out _ _ _ _ _ X1.out X2.out (by unfold retW; rw [if_pos ⟨rfl, rfl, htt⟩, if_pos hnc]))
          obtain ⟨WX, hWX⟩ : ∃ WX, ((((w.setCell ⟨b, o, none⟩ (.int .i64 0)).setCell ⟨b, o + 1, none⟩ (.int .i64 0)).setCell ⟨b, o + 2, none⟩ (.bool true)).setCell ⟨b, o + 3, none⟩ (.bool false)) = WX := ⟨_, rfl⟩
          rw [hWX] at X1 X2 V
          have HWX := Lib.hid hWX
          clear hWX
          clear htt
          go_enter Try.func49, Try.ntmps49
          go_upto_region 7 with fail
          rw [HWX.out]
          have d4 := X1.out.cr tid HT.out
          have d5 := X1.out.ct
          have g4 := X1.out.fz (o + 4 + tid)
          have g5 := X1.out.fz (o + 260)
          dsimp only at d4 d5
          rw [HU.out] at d4
          by_cases hcu : cut < u
          · have Z := Lib.hid (V.out.1 hcu)
            go_wp2_with fail
            go_ret
            exact Z.out
          · have Z := Lib.hid (V.out.2 hcu)
            go_wp2_with fail
            go_ret
            exact Z.out
        · have X1 := Lib.hid (H.out.set_w 0 0 false true)
          have X2 := Lib.hid (only_w (w := w) (b := b) (o := o) (.int .i64 0) (.int .i64 0) (.bool false) (.bool true))
          have V := Lib.hid (REST.out _ _ _ _ _ X1.out X2.out (by unfold retW; rw [if_pos ⟨rfl, rfl, htt⟩, if_neg hnc]))
          obtain ⟨WX, hWX⟩ : ∃ WX, ((((w.setCell ⟨b, o, none⟩ (.int .i64 0)).setCell ⟨b, o + 1, none⟩ (.int .i64 0)).setCell ⟨b, o + 2, none⟩ (.bool false)).setCell ⟨b, o + 3, none⟩ (.bool true)) = WX := ⟨_, rfl⟩
          rw [hWX] at X1 X2 V
          have HWX := Lib.hid hWX
          clear hWX
          clear htt
          go_enter Try.func49, Try.ntmps49
          go_upto_region 7 with fail
          rw [HWX.out]
          have d4 := X1.out.cr tid HT.out
          have d5 := X1.out.ct
          have g4 := X1.out.fz (o + 4 + tid)
          have g5 := X1.out.fz (o + 260)
          dsimp only at d4 d5
          rw [HU.out] at d4
          by_cases hcu : cut < u
          · have Z := Lib.hid (V.out.1 hcu)
            go_wp2_with fail
            go_ret
            exact Z.out
          · have Z := Lib.hid (V.out.2 hcu)
            go_wp2_with fail
            go_ret
            exact Z.out
      · have htt' : (mt == (tid : Int)) = false := by simp [htt]
        have X1 := Lib.hid H.out
        have X2 := Lib.hid (Only.refl b o 261 w)
        have V := Lib.hid (REST.out _ _ _ _ _ X1.out X2.out (by unfold retW; rw [if_neg (fun hh => htt hh.2.2)]))
        clear htt
        go_enter Try.func49, Try.ntmps49
        go_upto_region 7 with fail
        by_cases hcu : cut < u
        · have Z := Lib.hid (V.out.1 hcu)
          go_wp2_with fail
          go_ret
          exact Z.out
        · have Z := Lib.hid (V.out.2 hcu)
          go_wp2_with fail
          go_ret
          exact Z.out
end Go.Proofs.Ytkcnbkdpjlpppaa

