/-
  The walk of ReelTakesLists: the law's call returns true; no old memory is written.
-/
import Derived.Test.YtkpjihbdgibcjaaRefTakeL
namespace Go.Proofs.Ytkpjihbdgibcjaa
open Go.RowKit
set_option linter.unusedVariables false
set_option linter.unusedSimpArgs false
set_option maxRecDepth 100000

theorem takeL_err (s : List UInt8) (most : Int) : (takeL s most).2.2 = 0 ∨ ((takeL s most).2.2 ≠ 0 ∧ (takeL s most).1 = [] ∧ (takeL s most).2.1 = []) := by
  unfold takeL
  split
  · right; simp
  · split
    · right; simp
    · split
      · right; simp
      · left; rfl

theorem tlist_len : ∀ (n : Nat) (s : List UInt8) (l : List Int) (r : List UInt8), tlist n s = some (l, r) → l.length + r.length ≤ s.length := by
  intro n
  induction n with
  | zero => intro s l r h; simp [tlist] at h; obtain ⟨rfl, rfl⟩ := h; simp
  | succ n ih =>
    intro s l r h
    simp only [tlist] at h
    split at h
    · simp at h
    · rename_i x z ht
      split at h
      · simp at h
      · rename_i l' r' hr
        simp at h
        obtain ⟨rfl, rfl⟩ := h
        have := ih _ _ _ hr
        have hz := (tak_some ht).2
        have := sizeN_pos x
        simp at this ⊢
        have h3 := hz.2.1
        have h1 := hz.1
        have := (ih _ _ _ hr)
        simp at this
        omega

theorem takeL_len (s : List UInt8) (most : Int) : (takeL s most).1.length ≤ s.length := by
  unfold takeL
  split
  · simp
  · split
    · simp
    · split
      · simp
      · rename_i l r h
        have := tlist_len _ _ _ _ h
        simp at this ⊢
        omega

set_option maxHeartbeats 2000000 in
theorem takesLists_law (s : List UInt8) (most : Int) (w : World) (hl : s.length ≤ 140737488351232) :
    Calls Try.prog 6 #[bs s, .int .i64 most] w (RetB (.bool true) w) := by
  by_cases h5 : 5000 < s.length
  · have h5' : 5000 < (s.length : Int) := by omega
    go_enter Try.func6, Try.ntmps6
    go_wp2_with fail
    refine (long_any _).mono ?_
    rintro r w' ⟨rfl, hb2⟩
    go_wp2
    go_ret
    exact ⟨rfl, hb2⟩
  · have h5' : (s.length : Int) ≤ 5000 := by omega
    have hlen := takeL_len s most
    obtain ⟨t, ht⟩ : ∃ t, takeL s most = t := ⟨_, rfl⟩
    have herr := takeL_err s most
    rw [ht] at hlen herr
    obtain ⟨ls, q, e⟩ := t
    simp only at hlen herr
    have T := Lib.hid ht
    clear ht
    have E := Lib.hid herr
    clear herr
    go_enter Try.func6, Try.ntmps6
    go_wp2_with fail
    refine (takeL_any s most _ (by omega)).mono ?_
    rintro r w1 hpost
    rw [T.out] at hpost
    obtain ⟨v, rfl, hown, hb⟩ := hpost
    go_wp2_with fail
    refine (ref_takeL_any s most _ (by omega)).mono ?_
    rintro r w2 hpost
    rw [T.out] at hpost
    obtain ⟨v2, z, rfl, hown2, hb2, hz⟩ := hpost
    have hb3 := below_next hb hb2
    have hown1 := owns_below hown hb2
    obtain ⟨ao, cap, rfl⟩ := owns_shape hown
    obtain ⟨ao2, cap2, rfl⟩ := owns_shape hown2
    clear hown hb hb2
    simp only at hown1 hown2 hz
    go_wp2_with fail
    refine (ints_any _ _ ls ls _ (SlI.of_owns (hown1.alloc _)) (SlI.of_owns (hown2.alloc _)) (by omega) (by omega)).mono ?_
    rintro r w3 ⟨rfl, n, rfl⟩
    have hdd : decide (ls = ls) = true := by simp
    rw [hdd]
    rcases E.out with he | ⟨he, hls, hq⟩
    · obtain ⟨hz1, hz2⟩ := hz he
      subst he
      have hzi : (z : Int) ≤ s.length := by omega
      have Q := Lib.hid hz2
      rw [Q.out]
      clear hz hz2
      go_wp2_with fail
      refine (long_any _).mono ?_
      rintro r w' ⟨rfl, hb2⟩
      go_wp2
      go_ret
      exact ⟨rfl, below_next (below_drewN (hb3.alloc hb3.size _) n) hb2⟩
    · subst hq
      have hne : (e != 0) = true := by simpa using he
      clear hz he
      go_wp2_with fail
      refine (long_any _).mono ?_
      rintro r w' ⟨rfl, hb2⟩
      go_wp2
      go_ret
      exact ⟨rfl, below_next (below_drewN (hb3.alloc hb3.size _) n) hb2⟩

theorem takesLists_row (s : ByteArray) (most : Int) (w : World) (h : s.size ≤ 140737488351232) : Calls Try.prog 6 #[.string s, .int .i64 most] w (RetB (.bool true) w) := by
  rw [bs_of]
  exact takesLists_law _ most w (by rw [Array.length_toList]; exact h)

end Go.Proofs.Ytkpjihbdgibcjaa
