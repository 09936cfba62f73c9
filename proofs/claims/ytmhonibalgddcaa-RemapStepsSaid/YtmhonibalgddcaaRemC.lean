
/-
  Package remap: find.
-/
import Derived.Test.YtmhonibalgddcaaRemB
namespace Go.Proofs.Ytmhonibalgddcaa
open Go.RowKit
set_option linter.unusedVariables false
set_option linter.unusedSimpArgs false
set_option maxRecDepth 100000

def sgn (x y : Int) : Int := if x < y then -1 else if y < x then 1 else 0
theorem nan_any (x : Int) (w : World) : Calls Try.prog 32 #[.int .i64 x] w fun r w' => r = .returned (.bool false) ∧ w = w' := by
  go_enter Try.func32, Try.ntmps32
  go_wp2_with fail
  go_ret
  exact ⟨rfl, rfl⟩
theorem compare_any (x y : Int) (w : World) : Calls Try.prog 27 #[.int .i64 x, .int .i64 y] w fun r w' => r = .returned (.int .i64 (sgn x y)) ∧ w = w' := by
  unfold sgn
  by_cases h1 : x < y
  · rw [if_pos h1]
    go_enter Try.func27, Try.ntmps27
    go_wp2_with fail
    refine (nan_any x w).mono ?_
    rintro r w1 ⟨rfl, rfl⟩
    go_wp2_with fail
    refine (nan_any y w).mono ?_
    rintro r w1 ⟨rfl, rfl⟩
    go_wp2_with fail
    go_ret
    exact ⟨rfl, rfl⟩
  · rw [if_neg h1]
    by_cases h2 : y < x
    · rw [if_pos h2]
      go_enter Try.func27, Try.ntmps27
      go_wp2_with fail
      refine (nan_any x w).mono ?_
      rintro r w1 ⟨rfl, rfl⟩
      go_wp2_with fail
      refine (nan_any y w).mono ?_
      rintro r w1 ⟨rfl, rfl⟩
      go_wp2_with fail
      go_ret
      exact ⟨rfl, rfl⟩
    · rw [if_neg h2]
      go_enter Try.func27, Try.ntmps27
      go_wp2_with fail
      refine (nan_any x w).mono ?_
      rintro r w1 ⟨rfl, rfl⟩
      go_wp2_with fail
      refine (nan_any y w).mono ?_
      rintro r w1 ⟨rfl, rfl⟩
      go_wp2_with fail
      go_ret
      exact ⟨rfl, rfl⟩

theorem find1_any (r : Rec) (g : Int) (w : World) : Calls Try.prog 26 #[recV r, .int .i64 g] w fun e w' => e = .returned (.int .i64 (sgn r.g g)) ∧ Below w.heap.size w w' := by
  unfold recV
  go_enter Try.func26, Try.ntmps26
  go_wp2_with fail
  refine (compare_any r.g g _).mono ?_
  rintro e w1 ⟨rfl, rfl⟩
  go_wp2_with fail
  go_ret
  exact ⟨rfl, (Below.refl _ _).alloc (Nat.le_refl _) _⟩

def Srt (rs : List Rec) : Prop := ∀ a b, a < b → b < rs.length → (rs.getD a default).g < (rs.getD b default).g
def gAt (rs : List Rec) (i : Nat) : Int := (rs.getD i default).g
/-- What find answers: where a goroutine's record stands, or would. -/
def FindPost (rs : List Rec) (g : Int) (w : World) (e : Ending) (w' : World) : Prop :=
  ∃ i : Nat, e = .returned (.tuple #[.int .i64 i, .bool (decide (i < rs.length ∧ gAt rs i = g))]) ∧ i ≤ rs.length ∧ (∀ t, t < i → gAt rs t < g) ∧ (∀ t, i ≤ t → t < rs.length → g ≤ gAt rs t) ∧ Below w.heap.size w w'

set_option maxHeartbeats 4000000 in
theorem search_any (v : Value) (rs : List Rec) (g : Int) (w : World) (h : RsOf w v rs) (hs : Srt rs) (hN : rs.length ≤ 1000) :
    Calls Try.prog 25 #[v, .int .i64 g, .func (.func 26) #[] #[]] w (FindPost rs g w) := by
  obtain ⟨ao, cap, rfl, hc⟩ := h
  have HC := Lib.hid hc
  have HS := Lib.hid hs
  obtain ⟨n, hn⟩ : ∃ n, rs.length = n := ⟨_, rfl⟩
  rw [hn] at hN
  have HN := Lib.hid hn
  rw [hn]
  clear hc hs hn
  go_enter Try.func25, Try.ntmps25
  go_wp2_with fail
  go_loopw [9, 10] (fun i j wr => ∃ lo hi : Nat, i = .int .i64 lo ∧ j = .int .i64 hi ∧ lo ≤ hi ∧ hi ≤ n ∧ (∀ t, t < lo → gAt rs t < g) ∧ (∀ t, hi ≤ t → t < n → g ≤ gAt rs t) ∧ Below w.heap.size w wr) (fun i j _ => (intOf j).toNat - (intOf i).toNat)
  case atStart => exact ⟨0, n, rfl, rfl, by omega, by omega, fun t ht => by omega, fun t h1 h2 => by omega, Below.refl _ _⟩
  case round =>
    obtain ⟨lo, hi, rfl, rfl, hlh, hhn, hl, hr, hb⟩ := hrel
    have KL := Lib.hid hl
    have KR := Lib.hid hr
    have HB := Lib.hid hb
    clear hl hr hb
    by_cases hlt : lo < hi
    · obtain ⟨b, o, rfl, hcc⟩ := HC.out (by have := HN.out; omega)
      obtain ⟨c0, c1, c2, c3, c4, c5⟩ := (hcc ((lo + hi) / 2) (by have := HN.out; omega)).below (Nat.le_refl _) HB.out
      obtain ⟨r, hrr⟩ : ∃ r, rs.getD ((lo + hi) / 2) default = r := ⟨_, rfl⟩
      rw [hrr] at c0 c1 c2 c3 c4 c5
      have RR := Lib.hid hrr
      clear hrr hcc
      go_wp2_with fail
      refine (find1_any r g wr).mono ?_
      rintro e w1 ⟨rfl, hb1⟩
      have B1 := Lib.hid (below_trans HB.out hb1 HB.out.size)
      clear hb1
      by_cases hc1 : r.g < g
      · have e1 : sgn r.g g = -1 := by unfold sgn; rw [if_pos hc1]
        rw [e1]
        clear e1
        go_wp2_with fail
        go_roundw
        case rel =>
          refine ⟨(lo + hi) / 2 + 1, hi, by rw [show (lo : Int) + (hi : Int) = ((lo + hi : Nat) : Int) by omega]; push_cast; rfl, rfl, by omega, hhn, fun t ht => ?_, KR.out, B1.out⟩
          by_cases h2 : t = (lo + hi) / 2
          · rw [h2]; show (rs.getD ((lo + hi) / 2) default).g < g; rw [RR.out]; exact hc1
          · have := HS.out t ((lo + hi) / 2) (by omega) (by have := HN.out; omega)
            rw [RR.out] at this
            show (rs.getD t default).g < g
            omega
        case measure => simp [intOf] <;> omega
      · have e1 : decide (sgn r.g g < 0) = false := by
          unfold sgn; rw [if_neg hc1]
          split <;> decide
        have e2 : ¬ (sgn r.g g < 0) := by simpa using e1
        clear e1
        obtain ⟨sg, hsg⟩ : ∃ sg, sgn r.g g = sg := ⟨_, rfl⟩
        rw [hsg] at e2 ⊢
        clear hsg
        go_wp2_with fail
        go_roundw
        case rel =>
          refine ⟨lo, (lo + hi) / 2, rfl, by rw [show (lo : Int) + (hi : Int) = ((lo + hi : Nat) : Int) by omega]; push_cast; rfl, by omega, by omega, KL.out, fun t h1 h2 => ?_, B1.out⟩
          by_cases h3 : t = (lo + hi) / 2
          · rw [h3]; show g ≤ (rs.getD ((lo + hi) / 2) default).g; rw [RR.out]; omega
          · have := HS.out ((lo + hi) / 2) t (by omega) (by have := HN.out; omega)
            rw [RR.out] at this
            show g ≤ (rs.getD t default).g
            omega
        case measure => simp [intOf] <;> omega
    · obtain rfl : hi = lo := by omega
      by_cases hlt2 : hi < n
      · have hlt2' : (hi : Int) < (n : Int) := by omega
        obtain ⟨b, o, rfl, hcc⟩ := HC.out (by have := HN.out; omega)
        obtain ⟨c0, c1, c2, c3, c4, c5⟩ := (hcc hi (by have := HN.out; omega)).below (Nat.le_refl _) HB.out
        obtain ⟨r, hrr⟩ : ∃ r, rs.getD hi default = r := ⟨_, rfl⟩
        rw [hrr] at c0 c1 c2 c3 c4 c5
        have RR := Lib.hid hrr
        clear hrr hcc
        go_wp2_with fail
        refine (find1_any r g wr).mono ?_
        rintro e w1 ⟨rfl, hb1⟩
        have T := Lib.hid (show FindPost rs g w (.returned (.tuple #[.int .i64 hi, .bool (decide (sgn r.g g = 0))])) w1 from ⟨hi, by
          have e : decide (sgn r.g g = 0) = decide (hi < rs.length ∧ gAt rs hi = g) := by
            apply decide_eq_decide.2
            unfold sgn gAt
            rw [RR.out]
            have := HN.out
            constructor
            · intro h
              refine ⟨by omega, ?_⟩
              split at h
              · omega
              · split at h <;> omega
            · rintro ⟨_, h⟩
              rw [if_neg (by omega), if_neg (by omega)]
          rw [e], by have := HN.out; omega, KL.out, fun t h1 h2 => KR.out t h1 (by have := HN.out; omega), below_trans HB.out hb1 HB.out.size⟩)
        obtain ⟨sg, hsg⟩ : ∃ sg, sgn r.g g = sg := ⟨_, rfl⟩
        rw [hsg] at T ⊢
        clear hb1 hsg
        go_wp2_with fail
        go_ret2
        exact T.out
      · obtain rfl : hi = n := by omega
        have T := Lib.hid (show FindPost rs g w (.returned (.tuple #[.int .i64 hi, .bool false])) wr from ⟨hi, by
          have e : decide (hi < rs.length ∧ gAt rs hi = g) = false := decide_eq_false (by have := HN.out; omega)
          rw [e], by have := HN.out; omega, KL.out, fun t h1 h2 => KR.out t h1 (by have := HN.out; omega), HB.out⟩)
        go_wp2_with fail
        go_ret2
        exact T.out
end Go.Proofs.Ytmhonibalgddcaa

