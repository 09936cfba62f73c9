
/-
  staithelaw21.turns.
-/
import Derived.Test.YtmhonibalgddcaaRemL
namespace Go.Proofs.Ytmhonibalgddcaa
open Go.RowKit
set_option linter.unusedVariables false
set_option linter.unusedSimpArgs false
set_option maxRecDepth 100000

theorem srt_cons {x : Rec} {rs : List Rec} (h : ∀ r, r ∈ rs → x.g < r.g) (k : Srt rs) : Srt (x :: rs) := by
  intro a b hab hb
  cases a with
  | zero =>
    cases b with
    | zero => omega
    | succ b =>
      show x.g < (rs.getD b default).g
      have hb' : b < rs.length := by simpa using hb
      refine h _ ?_
      rw [List.getD_eq_getElem?_getD, List.getElem?_eq_getElem hb']
      exact List.getElem_mem _
  | succ a =>
    cases b with
    | zero => omega
    | succ b => exact k a b (by omega) (by simpa using hb)
def T1 : List Rec := [rec0, ⟨4, 1, 3, false, 0, 0⟩]
def T2 : List Rec := [rec0, ⟨4, 1, 3, true, 9, 2⟩]
def T3 : List Rec := [rec0, ⟨4, 1, 3, true, 9, 2⟩, ⟨6, 1, 9, false, 0, 0⟩]
theorem srt1 : Srt T1 := srt_cons (by decide) (srt_one _)
theorem srt2 : Srt T2 := srt_cons (by decide) (srt_one _)
theorem srt3 : Srt T3 := srt_cons (by decide) (srt_cons (by decide) (srt_one _))

theorem turns_any (w : World) : Calls Try.prog 8 #[] w fun e w' => e = .returned (.bool true) ∧ Below w.heap.size w w' := by
  go_enter Try.func8, Try.ntmps8
  go_wp2_with fail
  refine (new_any w.heap.size w (Nat.le_refl _)).mono ?_
  rintro e w1 ⟨⟨b, v, rfl, ht, hb⟩, hB1⟩
  have Q1 := Lib.hid ht
  have B1 := Lib.hid hB1
  clear ht hB1
  go_wp2_with fail
  refine (born_any w.heap.size b v _ 4 1 3 w1 Q1.out B1.out.size (srt_one _) (by decide)).mono ?_
  rintro e w2 ⟨rfl, ho, v2, rs2, ht, hs, hp, _⟩
  have e2 : rs2 = T1 := srt_perm hs srt1 ((hp (by decide)).trans (by decide))
  subst e2
  have Q2 := Lib.hid ht
  have B2 := Lib.hid (B1.out.trans ho.1)
  rw [show bornE [rec0] 4 1 3 = 0 by decide]
  clear ht ho hs hp
  go_wp2_with fail
  refine (gone_any w.heap.size b v2 _ 4 9 2 w2 Q2.out B2.out.size srt1 (by decide)).mono ?_
  rintro e w3 ⟨rfl, ho, v3, rs3, ht, hs, hp, _⟩
  have e3 : rs3 = T2 := (goneTo_map (nd_of_srt srt1) (hp (by decide))).trans (by decide)
  subst e3
  have Q3 := Lib.hid ht
  have B3 := Lib.hid (B2.out.trans ho.1)
  rw [show goneE T1 4 9 2 = 0 by decide]
  clear ht ho hs hp
  go_wp2_with fail
  refine (born_any w.heap.size b v3 _ 6 1 9 w3 Q3.out B3.out.size srt2 (by decide)).mono ?_
  rintro e w4 ⟨rfl, ho, v4, rs4, ht, hs, hp, _⟩
  have e4 : rs4 = T3 := srt_perm hs srt3 ((hp (by decide)).trans (by decide))
  subst e4
  have Q4 := Lib.hid ht
  have B4 := Lib.hid (B3.out.trans ho.1)
  rw [show bornE T2 6 1 9 = 0 by decide]
  clear ht ho hs hp
  go_wp2_with fail
  refine (owner_any w.heap.size b v4 _ 1 8 w4 Q4.out (by decide)).mono ?_
  rintro e w5 ⟨rfl, hb5⟩
  have Q5 := Lib.hid (Q4.out.below hb5)
  have B5 := Lib.hid (below_trans B4.out hb5 B4.out.size)
  rw [show ownOut T3 1 8 = (4, true) by decide]
  clear hb5
  go_wp2_with fail
  refine (owner_any w.heap.size b v4 _ 1 9 w5 Q5.out (by decide)).mono ?_
  rintro e w6 ⟨rfl, hb6⟩
  have B6 := Lib.hid (below_trans B5.out hb6 B5.out.size)
  rw [show ownOut T3 1 9 = (6, true) by decide]
  clear hb6
  go_wp2_with fail
  go_ret
  exact ⟨rfl, B6.out⟩
end Go.Proofs.Ytmhonibalgddcaa

