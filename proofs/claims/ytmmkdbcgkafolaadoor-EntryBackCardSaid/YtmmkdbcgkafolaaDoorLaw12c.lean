
/-
  The laws EntryAll, EntryBack.
-/
import Derived.Test.YtmmkdbcgkafolaaDoorEntH
import Derived.Test.YtmmkdbcgkafolaaDoorEntV
namespace Go.Proofs.YtmmkdbcgkafolaaDoor
open Go.RowKit
set_option linter.unusedVariables false
set_option linter.unusedSimpArgs false
set_option maxRecDepth 100000

def LawPost (w : World) (r : Ending) (w' : World) : Prop := r = .returned (.bool true) ∧ Below w.heap.size w w'
theorem allS_len (es : List Ev) : (allS es).length ≤ 49 * 2000 := by
  unfold allS
  split
  · rename_i h
    unfold allF at h
    split at h
    · omega
    · have := flatE_len es; omega
  · simp
theorem eall_law (v : Value) (es : List Ev) (l : List UInt8) (w : World) (hg : Glob w) (hs : EvsOf w v es) : Calls Tryd.prog 7 #[v, bs l] w (LawPost w) := by
  obtain ⟨ao, ca, rfl⟩ := hs.shape
  have HS := Lib.hid hs
  have G := Lib.hid hg
  clear hs hg
  by_cases h1 : 2100 < es.length
  · have h1' : decide ((2100 : Int) < es.length) = true := decide_eq_true (by omega)
    clear h1
    go_enter Tryd.func7, Tryd.ntmps7
    go_wp2_with fail
    refine (exit_any _ G.out).mono ?_
    rintro r w1 ⟨rfl, hB1⟩
    have B1 := Lib.hid hB1
    clear hB1
    go_wp2_with fail
    go_ret
    exact ⟨rfl, B1.out⟩
  · have h1' : decide ((2100 : Int) < es.length) = false := decide_eq_false (by omega)
    by_cases h2 : 20000 < l.length
    · have h2' : decide ((20000 : Int) < l.length) = true := decide_eq_true (by omega)
      clear h1 h2
      go_enter Tryd.func7, Tryd.ntmps7
      go_wp2_with fail
      refine (exit_any _ G.out).mono ?_
      rintro r w1 ⟨rfl, hB1⟩
      have B1 := Lib.hid hB1
      clear hB1
      go_wp2_with fail
      go_ret
      exact ⟨rfl, B1.out⟩
    · have h2' : decide ((20000 : Int) < l.length) = false := decide_eq_false (by omega)
      have hl : l.length ≤ 1000000 := by omega
      have HL := Lib.hid hl
      obtain ⟨y, hy⟩ : ∃ y, allS es = y := ⟨_, rfl⟩
      obtain ⟨c, hc⟩ : ∃ c, allF es = c := ⟨_, rfl⟩
      obtain ⟨d, hd⟩ : ∃ d, rdF l = d := ⟨_, rfl⟩
      have P1 := fun w h1 h2 => Lib.hid (all_any (.slice ao es.length ca) es w h1 h2)
      have P2 := fun w h2 => Lib.hid (rall_any (.slice ao es.length ca) es w h2)
      have P3 : ∀ w, Glob w → Hid (Calls Tryd.prog 19 #[bs l] w fun r w' => ∃ v, r = .returned (.tuple #[v, .int .i64 d]) ∧ EvsOf w' v (rdE l) ∧ Below w.heap.size w w') := fun w h => Lib.hid (by have := read_any l w h hl; unfold ReadPost at this; rw [hd] at this; exact this)
      have P4 : ∀ w, Hid (Calls Tryd.prog 20 #[bs l] w fun r w' => ∃ v, r = .returned (.tuple #[v, .int .i64 d]) ∧ EvsOf w' v (rdE l) ∧ Below w.heap.size w w') := fun w => Lib.hid (by have := rread_any l w hl; unfold RReadPost at this; rw [hd] at this; exact this)
      rw [hy, hc] at P1 P2
      clear hy hc hd h1 h2 hl
      go_enter Tryd.func7, Tryd.ntmps7
      go_wp2_with fail
      refine ((P1 _ G.out HS.out).out).mono ?_
      rintro r w1 ⟨rfl, hB1⟩
      have B1 := Lib.hid hB1
      clear hB1
      go_wp2_with fail
      refine ((P2 _ (HS.out.below (Nat.le_refl _) B1.out)).out).mono ?_
      rintro r w2 ⟨rfl, hB2⟩
      have B2 := Lib.hid (below_next B1.out hB2)
      clear hB2
      go_wp2_with fail
      refine ((P3 _ (G.out.below B2.out)).out).mono ?_
      rintro r w3 ⟨v3, rfl, hE3, hB3⟩
      have E3 := Lib.hid hE3
      have B3 := Lib.hid (below_next B2.out hB3)
      clear hB3 hE3
      go_wp2_with fail
      refine ((P4 _).out).mono ?_
      rintro r w4 ⟨v4, rfl, hE4, hB4⟩
      have E34 := Lib.hid (E3.out.below (Nat.le_refl _) hB4)
      have E4 := Lib.hid hE4
      have B4 := Lib.hid (below_next B3.out hB4)
      clear hB4 hE4
      go_wp2_with fail
      refine (events_any v3 v4 (rdE l) _ E34.out E4.out (Nat.le_trans (rdE_len l) HL.out)).mono ?_
      rintro r w5 ⟨rfl, hB5⟩
      have B5 := Lib.hid (below_next B4.out hB5)
      clear hB5
      go_wp2_with fail
      refine (exit_any _ (G.out.below B5.out)).mono ?_
      rintro r w6 ⟨rfl, hB6⟩
      have B6 := Lib.hid (below_next B5.out hB6)
      clear hB6
      go_wp2_with fail
      go_ret
      exact ⟨rfl, B6.out⟩
theorem eback_law (v : Value) (es : List Ev) (l : List UInt8) (w : World) (hg : Glob w) (hs : EvsOf w v es) : Calls Tryd.prog 8 #[v, bs l] w (LawPost w) := by
  obtain ⟨ao, ca, rfl⟩ := hs.shape
  have HS := Lib.hid hs
  have G := Lib.hid hg
  clear hs hg
  by_cases h1 : 500 < es.length
  · have h1' : decide ((500 : Int) < es.length) = true := decide_eq_true (by omega)
    clear h1
    go_enter Tryd.func8, Tryd.ntmps8
    go_wp2_with fail
    refine (exit_any _ G.out).mono ?_
    rintro r w1 ⟨rfl, hB1⟩
    have B1 := Lib.hid hB1
    clear hB1
    go_wp2_with fail
    go_ret
    exact ⟨rfl, B1.out⟩
  · have h1' : decide ((500 : Int) < es.length) = false := decide_eq_false (by omega)
    by_cases h2 : 10000 < l.length
    · have h2' : decide ((10000 : Int) < l.length) = true := decide_eq_true (by omega)
      clear h1 h2
      go_enter Tryd.func8, Tryd.ntmps8
      go_wp2_with fail
      refine (exit_any _ G.out).mono ?_
      rintro r w1 ⟨rfl, hB1⟩
      have B1 := Lib.hid hB1
      clear hB1
      go_wp2_with fail
      go_ret
      exact ⟨rfl, B1.out⟩
    · have h2' : decide ((10000 : Int) < l.length) = false := decide_eq_false (by omega)
      have hl : l.length ≤ 1000000 := by omega
      have AL := allS_len es
      have HE := Lib.hid (show es.length ≤ 1000000 by omega)
      have BK := Lib.hid (fun h => back_one (es := es) h)
      have P2 : ∀ w, Glob w → Hid (Calls Tryd.prog 19 #[bs (allS es)] w (ReadPost (allS es) w)) := fun w h => Lib.hid (read_any (allS es) w h (by omega))
      obtain ⟨y, hy⟩ : ∃ y, allS es = y := ⟨_, rfl⟩
      obtain ⟨c, hc⟩ : ∃ c, allF es = c := ⟨_, rfl⟩
      obtain ⟨d, hd⟩ : ∃ d, rdF l = d := ⟨_, rfl⟩
      have P1 := fun w h1 h2 => Lib.hid (all_any (.slice ao es.length ca) es w h1 h2)
      have P3 : ∀ w, Glob w → Hid (Calls Tryd.prog 19 #[bs l] w fun r w' => ∃ v, r = .returned (.tuple #[v, .int .i64 d]) ∧ EvsOf w' v (rdE l) ∧ Below w.heap.size w w') := fun w h => Lib.hid (by have := read_any l w h hl; unfold ReadPost at this; rw [hd] at this; exact this)
      have HD := Lib.hid hd
      rw [hy, hc] at P1 BK
      rw [hy] at P2
      clear hy hc hd h1 h2 hl AL
      cases hc0 : (c == 0) with
      | false =>
        go_enter Tryd.func8, Tryd.ntmps8
        go_wp2_with fail
        refine ((P1 _ G.out HS.out).out).mono ?_
        rintro r w1 ⟨rfl, hB1⟩
        have BZ := Lib.hid hB1
        clear hB1
        cases hd0 : (d == 0) with
        | false =>
          have HD0 := Lib.hid hd0
          go_wp2_with fail
          refine ((P3 _ (G.out.below BZ.out)).out).mono ?_
          rintro r w5 ⟨v5, rfl, hE5, hB5⟩
          have B5 := Lib.hid (below_next BZ.out hB5)
          clear hB5 hE5
          go_wp2_with fail
          refine (exit_any _ (G.out.below B5.out)).mono ?_
          rintro r w6 ⟨rfl, hB6⟩
          have B6 := Lib.hid (below_next B5.out hB6)
          clear hB6
          go_wp2_with fail
          go_ret
          exact ⟨rfl, B6.out⟩
        | true =>
          have hdd : d = 0 := by simpa using hd0
          subst hdd
          obtain ⟨x1, x2, x3⟩ := back_two HD.out
          clear hd0
          have P5 := fun v w h1 h2 => Lib.hid (all_any v (rdE l) w h1 h2)
          rw [x1, x2] at P5
          clear x1 x2 x3
          go_wp2_with fail
          refine ((P3 _ (G.out.below BZ.out)).out).mono ?_
          rintro r w5 ⟨v5, rfl, hE5, hB5⟩
          have E5 := Lib.hid hE5
          have B5 := Lib.hid (below_next BZ.out hB5)
          clear hB5 hE5
          go_wp2_with fail
          refine ((P5 v5 _ (G.out.below B5.out) E5.out).out).mono ?_
          rintro r w6 ⟨rfl, hB6⟩
          have B6 := Lib.hid (below_next B5.out hB6)
          clear hB6
          go_wp2_with fail
          refine (exit_any _ (G.out.below B6.out)).mono ?_
          rintro r w7 ⟨rfl, hB7⟩
          have B7 := Lib.hid (below_next B6.out hB7)
          clear hB7
          go_wp2_with fail
          go_ret
          exact ⟨rfl, B7.out⟩
      | true =>
        have hcc : c = 0 := by simpa using hc0
        subst hcc
        obtain ⟨x1, x2⟩ := BK.out rfl
        clear hc0
        have P4 : ∀ w, Glob w → Hid (Calls Tryd.prog 19 #[bs y] w fun r w' => ∃ v, r = .returned (.tuple #[v, .int .i64 0]) ∧ EvsOf w' v es ∧ Below w.heap.size w w') := fun w h => Lib.hid (by have := (P2 w h).out; unfold ReadPost at this; rw [x1, x2] at this; exact this)
        clear P2 x1 x2
        go_enter Tryd.func8, Tryd.ntmps8
        go_wp2_with fail
        refine ((P1 _ G.out HS.out).out).mono ?_
        rintro r w1 ⟨rfl, hB1⟩
        have B1 := Lib.hid hB1
        clear hB1
        go_wp2_with fail
        refine ((P4 _ (G.out.below B1.out)).out).mono ?_
        rintro r w2 ⟨v2, rfl, hE2, hB2⟩
        have E2 := Lib.hid hE2
        have B2 := Lib.hid (below_next B1.out hB2)
        clear hB2 hE2
        go_wp2_with fail
        refine (events_any v2 (.slice ao es.length ca) es _ E2.out (HS.out.below (Nat.le_refl _) B2.out) HE.out).mono ?_
        rintro r w3 ⟨rfl, hB3⟩
        have BZ := Lib.hid (below_next B2.out hB3)
        clear hB3
        cases hd0 : (d == 0) with
        | false =>
          have HD0 := Lib.hid hd0
          go_wp2_with fail
          refine ((P3 _ (G.out.below BZ.out)).out).mono ?_
          rintro r w5 ⟨v5, rfl, hE5, hB5⟩
          have B5 := Lib.hid (below_next BZ.out hB5)
          clear hB5 hE5
          go_wp2_with fail
          refine (exit_any _ (G.out.below B5.out)).mono ?_
          rintro r w6 ⟨rfl, hB6⟩
          have B6 := Lib.hid (below_next B5.out hB6)
          clear hB6
          go_wp2_with fail
          go_ret
          exact ⟨rfl, B6.out⟩
        | true =>
          have hdd : d = 0 := by simpa using hd0
          subst hdd
          obtain ⟨x1, x2, x3⟩ := back_two HD.out
          clear hd0
          have P5 := fun v w h1 h2 => Lib.hid (all_any v (rdE l) w h1 h2)
          rw [x1, x2] at P5
          clear x1 x2 x3
          go_wp2_with fail
          refine ((P3 _ (G.out.below BZ.out)).out).mono ?_
          rintro r w5 ⟨v5, rfl, hE5, hB5⟩
          have E5 := Lib.hid hE5
          have B5 := Lib.hid (below_next BZ.out hB5)
          clear hB5 hE5
          go_wp2_with fail
          refine ((P5 v5 _ (G.out.below B5.out) E5.out).out).mono ?_
          rintro r w6 ⟨rfl, hB6⟩
          have B6 := Lib.hid (below_next B5.out hB6)
          clear hB6
          go_wp2_with fail
          refine (exit_any _ (G.out.below B6.out)).mono ?_
          rintro r w7 ⟨rfl, hB7⟩
          have B7 := Lib.hid (below_next B6.out hB7)
          clear hB7
          go_wp2_with fail
          go_ret
          exact ⟨rfl, B7.out⟩
end Go.Proofs.YtmmkdbcgkafolaaDoor

