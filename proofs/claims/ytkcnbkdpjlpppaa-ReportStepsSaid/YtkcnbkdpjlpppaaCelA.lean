
/-
  Package cell: known, and the function values that call it.
-/
import Derived.Test.YtkcnbkdpjlpppaaEpC
namespace Go.Proofs.Ytkcnbkdpjlpppaa
open Go.RowKit
set_option linter.unusedVariables false
set_option linter.unusedSimpArgs false

/-- A clock or none: its numbers. -/
def CkV (w : World) (v : Value) (f : Int → Int) : Prop := (v = .pointer none ∧ f = fun _ => 0) ∨ ∃ b k, v = .pointer (some ⟨b, 0, none⟩) ∧ CkAt w b k ∧ f = at0 k.xs
theorem CkV.below {w w' : World} {v : Value} {f : Int → Int} (h : CkV w v f) (hB : Below w.heap.size w w') : CkV w' v f := by
  rcases h with h | ⟨b, k, h1, h2, h3⟩
  · exact .inl h
  · exact .inr ⟨b, k, h1, h2.below hB, h3⟩
theorem cget_any (v : Value) (f : Int → Int) (t : Int) (w : World) (h : CkV w v f) :
    Calls Try.prog 54 #[v, .int .i64 t] w fun r w' => r = .returned (.int .i64 (f t)) ∧ w = w' := by
  rcases h with ⟨rfl, rfl⟩ | ⟨b, k, rfl, h, rfl⟩
  · exact get_nil t w
  · exact get_any b k t w h

def knownB (x e : Int) (f : Int → Int) : Bool := decide (x = 0) || (decide (x ≠ 18446744073709551615) && (decide (tidE x = tidE e) || seenB x (f (tidE x))))
theorem known_any (x e : Int) (v : Value) (f : Int → Int) (w : World) (hx : U64 x) (he : U64 e) (hc : CkV w v f) :
    Calls Try.prog 38 #[.int .u64 x, .int .u64 e, v] w fun r w' => r = .returned (.bool (knownB x e f)) ∧ w = w' := by
  have hv : ∃ ao, v = .pointer ao := by
    rcases hc with ⟨h, _⟩ | ⟨b, k, h, _⟩
    · exact ⟨_, h⟩
    · exact ⟨_, h⟩
  obtain ⟨ao, rfl⟩ := hv
  have X := Lib.hid hx
  have E := Lib.hid he
  have C := Lib.hid hc
  clear hx he hc
  by_cases h0 : x = 0
  · have h0' : (x == 0) = true := by simp [h0]
    have F := Lib.hid (show knownB x e f = true by simp [knownB, h0])
    clear h0
    go_enter Try.func38, Try.ntmps38
    go_wp2_with fail
    go_ret
    exact ⟨by rw [F.out]; rfl, rfl⟩
  · have h0' : (x == 0) = false := by simp [h0]
    by_cases h1 : x = 18446744073709551615
    · have h1' : (x == 18446744073709551615) = true := by simp [h1]
      have h1'' : (x != 18446744073709551615) = false := by simp [h1]
      have F := Lib.hid (show knownB x e f = false by simp [knownB, h1])
      clear h0 h1
      go_enter Try.func38, Try.ntmps38
      go_wp2_with fail
      go_ret
      exact ⟨by rw [F.out]; rfl, rfl⟩
    · have h1' : (x == 18446744073709551615) = false := by simp [h1]
      have h1'' : (x != 18446744073709551615) = true := by simp [h1]
      have F := Lib.hid (show knownB x e f = (decide (tidE x = tidE e) || seenB x (f (tidE x))) by simp [knownB, h0, h1])
      clear h0 h1
      go_enter Try.func38, Try.ntmps38
      go_wp2_with fail
      refine (etid_of x w X.out).mono ?_
      rintro r w' ⟨rfl, rfl⟩
      go_wp2_with fail
      refine (etid_of e w E.out).mono ?_
      rintro r w' ⟨rfl, rfl⟩
      by_cases h2 : tidE x = tidE e
      · have h2' : (tidE x == tidE e) = true := by simp [h2]
        have G := Lib.hid (show knownB x e f = true by rw [F.out]; simp [h2])
        clear h2
        go_wp2_with fail
        go_ret
        exact ⟨by rw [G.out]; rfl, rfl⟩
      · have h2' : (tidE x == tidE e) = false := by simp [h2]
        have G := Lib.hid (show knownB x e f = seenB x (f (tidE x)) by rw [F.out]; simp [h2])
        clear h2
        go_wp2_with fail
        refine (etid_of x w X.out).mono ?_
        rintro r w' ⟨rfl, rfl⟩
        go_wp2_with fail
        refine (cget_any _ f (tidE x) w C.out).mono ?_
        rintro r w' ⟨rfl, rfl⟩
        go_wp2_with fail
        refine (eseen_of x (f (tidE x)) w X.out).mono ?_
        rintro r w' ⟨rfl, rfl⟩
        obtain ⟨y, hy⟩ : ∃ y, seenB x (f (tidE x)) = y := ⟨_, rfl⟩
        rw [hy] at G ⊢
        clear hy
        go_wp2_with fail
        go_ret
        exact ⟨by rw [G.out]; rfl, rfl⟩

/-- The function values that Read and Write hand on: of captured boxes p (the epoch) and q (the clock). -/
theorem read1_any (x e : Int) (p q : Nat) (v : Value) (f : Int → Int) (w : World) (hx : U64 x) (he : U64 e) (hc : CkV w v f) (h1 : w.cell? ⟨p, 0, none⟩ = some (.int .u64 e)) (h2 : w.cell? ⟨q, 0, none⟩ = some v) :
    Calls Try.prog 37 #[.int .u64 x, .pointer (some ⟨p, 0, none⟩), .pointer (some ⟨q, 0, none⟩)] w fun r w' => r = .returned (.bool (knownB x e f)) ∧ w = w' := by
  go_enter Try.func37, Try.ntmps37
  go_wp2_with fail
  refine (known_any x e v f w hx he hc).mono ?_
  rintro r w' ⟨rfl, rfl⟩
  go_wp2_with fail
  go_ret
  exact ⟨rfl, rfl⟩
theorem write1_any (x e : Int) (p q : Nat) (v : Value) (f : Int → Int) (w : World) (hx : U64 x) (he : U64 e) (hc : CkV w v f) (h1 : w.cell? ⟨p, 0, none⟩ = some (.int .u64 e)) (h2 : w.cell? ⟨q, 0, none⟩ = some v) :
    Calls Try.prog 44 #[.int .u64 x, .pointer (some ⟨p, 0, none⟩), .pointer (some ⟨q, 0, none⟩)] w fun r w' => r = .returned (.bool (!knownB x e f)) ∧ w = w' := by
  go_enter Try.func44, Try.ntmps44
  go_wp2_with fail
  refine (known_any x e v f w hx he hc).mono ?_
  rintro r w' ⟨rfl, rfl⟩
  go_wp2_with fail
  go_ret
  exact ⟨rfl, rfl⟩

def sgn (x y : Int) : Int := if x < y then -1 else if y < x then 1 else 0
theorem nan_any (x : Int) (w : World) : Calls Try.prog 55 #[.int .i64 x] w fun r w' => r = .returned (.bool false) ∧ w = w' := by
  go_enter Try.func55, Try.ntmps55
  go_wp2_with fail
  go_ret
  exact ⟨rfl, rfl⟩
theorem compare_any (x y : Int) (w : World) : Calls Try.prog 41 #[.int .i64 x, .int .i64 y] w fun r w' => r = .returned (.int .i64 (sgn x y)) ∧ w = w' := by
  unfold sgn
  by_cases h1 : x < y
  · rw [if_pos h1]
    go_enter Try.func41, Try.ntmps41
    go_wp2_with fail
    refine (nan_any x w).mono ?_
    rintro r w1 ⟨rfl, rfl⟩
    go_wp2_with fail
    refine (nan_any y w).mono ?_
    rintro r w1 ⟨rfl, rfl⟩
    go_wp2_with fail
    go_ret
    exact ⟨rfl, rfl⟩
  · rw [if_neg h1]
    by_cases h2 : y < x
    · rw [if_pos h2]
      go_enter Try.func41, Try.ntmps41
      go_wp2_with fail
      refine (nan_any x w).mono ?_
      rintro r w1 ⟨rfl, rfl⟩
      go_wp2_with fail
      refine (nan_any y w).mono ?_
      rintro r w1 ⟨rfl, rfl⟩
      go_wp2_with fail
      go_ret
      exact ⟨rfl, rfl⟩
    · rw [if_neg h2]
      go_enter Try.func41, Try.ntmps41
      go_wp2_with fail
      refine (nan_any x w).mono ?_
      rintro r w1 ⟨rfl, rfl⟩
      go_wp2_with fail
      refine (nan_any y w).mono ?_
      rintro r w1 ⟨rfl, rfl⟩
      go_wp2_with fail
      go_ret
      exact ⟨rfl, rfl⟩
theorem read2_any (a b : Int) (w : World) (ha : U64 a) (hb : U64 b) :
    Calls Try.prog 40 #[.int .u64 a, .int .u64 b] w fun r w' => r = .returned (.int .i64 (sgn (tidE a) (tidE b))) ∧ w = w' := by
  go_enter Try.func40, Try.ntmps40
  go_wp2_with fail
  refine (etid_of a w ha).mono ?_
  rintro r w' ⟨rfl, rfl⟩
  go_wp2_with fail
  refine (etid_of b w hb).mono ?_
  rintro r w' ⟨rfl, rfl⟩
  go_wp2_with fail
  refine (compare_any _ _ w).mono ?_
  rintro r w' ⟨rfl, rfl⟩
  go_wp2_with fail
  go_ret
  exact ⟨rfl, rfl⟩
end Go.Proofs.Ytkcnbkdpjlpppaa

