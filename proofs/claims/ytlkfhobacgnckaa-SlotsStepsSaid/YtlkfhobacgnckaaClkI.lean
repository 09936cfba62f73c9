
/-
  staitheplain.Ints; the plain laws of clocks; staithelaw02.joins.
-/
import Derived.Test.YtlkfhobacgnckaaClkK
namespace Go.Proofs.Ytlkfhobacgnckaa
open Go.RowKit
set_option linter.unusedVariables false
set_option linter.unusedSimpArgs false
set_option maxRecDepth 100000

/-! ### Plain laws -/
theorem withinB_iff {xs ys : List Int} (h : OkL ys) : withinB xs ys = true ↔ ∀ u : Int, at0 xs u ≤ at0 ys u := by
  unfold withinB
  rw [decide_eq_true_iff]
  constructor
  · intro hh u
    by_cases hu : 0 ≤ u ∧ u < xs.length
    · have := hh u.toNat (by omega)
      have e : ((u.toNat : Nat) : Int) = u := by omega
      rw [← at0_nat, e] at this
      exact this
    · rw [at0_out (l := xs) (by omega)]
      exact (at0_ok h u).1
  · intro hh j hj
    have := hh j
    rw [at0_nat xs j] at this
    exact this

theorem trimN_spec (xs : List Int) : ∀ n, (∀ j, trimN xs n ≤ j → j < n → xs.getD j 0 = 0) ∧ (trimN xs n = 0 ∨ xs.getD (trimN xs n - 1) 0 ≠ 0)
  | 0 => ⟨fun j _ h => by omega, .inl rfl⟩
  | n + 1 => by
    obtain ⟨h1, h2⟩ := trimN_spec xs n
    by_cases hz : xs.getD n 0 = 0
    · rw [trimN_succ, if_pos hz]
      refine ⟨fun j hj hl => ?_, h2⟩
      by_cases hjn : j = n
      · subst hjn; exact hz
      · exact h1 j hj (by omega)
    · rw [trimN_succ, if_neg hz]
      exact ⟨fun j hj hl => by omega, .inr (by simpa using hz)⟩
theorem at0_trim (xs : List Int) (u : Int) : at0 (trim xs) u = at0 xs u := by
  have h := (trimN_spec xs xs.length).1
  unfold at0 trim
  by_cases hu : 0 ≤ u
  · rw [if_pos hu, if_pos hu]
    by_cases hl : u.toNat < trimN xs xs.length
    · simp only [List.getD, List.getElem?_take, if_pos hl]
    · by_cases h2 : u.toNat < xs.length
      · rw [h _ (by omega) h2]
        simp [List.getD, List.getElem?_take, hl]
      · have : xs[u.toNat]? = none := List.getElem?_eq_none (by omega)
        simp only [List.getD, List.getElem?_take, if_neg hl, this]
  · rw [if_neg hu, if_neg hu]
theorem trim_len_le {xs ys : List Int} (h : ∀ u : Int, at0 xs u = at0 ys u) : trimN xs xs.length ≤ trimN ys ys.length := by
  rcases Nat.lt_or_ge (trimN ys ys.length) (trimN xs xs.length) with hlt | hge
  · exfalso
    obtain ⟨_, hx⟩ := trimN_spec xs xs.length
    obtain ⟨hy, _⟩ := trimN_spec ys ys.length
    rcases hx with hx | hx
    · omega
    · have e := h ((trimN xs xs.length - 1 : Nat) : Int)
      rw [at0_nat, at0_nat] at e
      by_cases h2 : trimN xs xs.length - 1 < ys.length
      · rw [hy _ (by omega) h2] at e
        exact hx e
      · have : ys[trimN xs xs.length - 1]? = none := List.getElem?_eq_none (by omega)
        simp only [List.getD, this, Option.getD_none] at e
        exact hx (by simpa [List.getD] using e)
  · exact hge
theorem trim_ext {xs ys : List Int} (h : ∀ u : Int, at0 xs u = at0 ys u) : trim xs = trim ys := by
  have hl : (trim xs).length = (trim ys).length := by
    rw [length_trim, length_trim]
    exact Nat.le_antisymm (trim_len_le h) (trim_len_le fun u => (h u).symm)
  refine List.ext_getElem hl fun i h1 h2 => ?_
  have e := h i
  rw [← at0_trim xs, ← at0_trim ys, at0_nat, at0_nat] at e
  simpa [List.getD, h1, h2] using e
theorem trim_iff {xs ys : List Int} : trim xs = trim ys ↔ ∀ u : Int, at0 xs u = at0 ys u :=
  ⟨fun h u => by rw [← at0_trim xs, ← at0_trim ys, h], trim_ext⟩
theorem length_trim_le (xs : List Int) : (trim xs).length ≤ xs.length := by rw [length_trim]; exact trimN_le _ _

/-! ### Ints -/
theorem Src.of_owns {w : World} {base : Nat} {e : TypeId} {v : Value} {n : Nat} {xs : List Int} (h : w.ownsRow base e 1 v n (ints xs)) : Src w v xs := by
  have hl := h.1
  rw [length_ints] at hl
  obtain rfl : xs.length = n := by omega
  rcases h.2 with ⟨rfl, h0⟩ | ⟨g, cap, cur, rfl, _, hg, _, _, hcs, ht⟩
  · exact ⟨none, 0, by rw [h0], fun _ => ⟨h0, rfl⟩, fun hp => by omega⟩
  · refine ⟨_, cap, rfl, (fun e => nomatch e), fun _ => ⟨g, 0, rfl, fun i hi => ?_⟩⟩
    have h2 := getElem?_ints xs i hi
    rw [← ht, List.getElem?_take_of_lt (by omega)] at h2
    simp only [World.cell?, hg, Nat.zero_add]
    simpa using h2
theorem Src.nil (w : World) : Src w (.slice none 0 0) [] := ⟨none, 0, rfl, fun _ => ⟨rfl, rfl⟩, fun h => by simp at h⟩

def EqTo (k : Nat) (xs ys : List Int) : Prop := ∀ j, j < k → j < ys.length ∧ xs.getD j 0 = ys.getD j 0
theorem eqTo_all {xs ys : List Int} (h : EqTo xs.length xs ys) : (xs.length = ys.length ↔ xs = ys) := by
  constructor
  · intro hl
    apply List.ext_getElem hl
    intro i h1 h2
    have := (h i h1).2
    simpa [List.getD, h1, h2] using this
  · intro h; rw [h]

def IntsPost (xs ys : List Int) (w : World) (r : Ending) (w' : World) : Prop := r = .returned (.bool (decide (xs = ys))) ∧ ∃ n, w' = w.drewN n

theorem ints_any (a b : Value) (xs ys : List Int) (w : World) (ha : Src w a xs) (hb : Src w b ys) (hx : xs.length ≤ 140737488351232) (hy : ys.length ≤ 140737488351232) :
    Calls Try.prog 19 #[a, b] w (IntsPost xs ys w) := by
  obtain ⟨ao, ca, rfl, _, ha⟩ := ha
  obtain ⟨bo, cb, rfl, _, hb⟩ := hb
  go_enter Try.func19, Try.ntmps19
  go_wp2_with fail
  go_loopw [8] (fun i wr => ∃ k m : Nat, k ≤ xs.length ∧ i = .int .i64 k ∧ EqTo k xs ys ∧ wr = w.drewN m) (fun i _ => xs.length - (intOf i).toNat)
  case atStart => exact ⟨0, 0, by omega, rfl, fun j hj => by omega, rfl⟩
  case round =>
    obtain ⟨k, m, hk, rfl, he, rfl⟩ := hrel
    have HE := Lib.hid he
    clear he
    by_cases hlt : k < xs.length
    · by_cases hlt2 : k < ys.length
      · obtain ⟨ba, oa, rfl, hca⟩ := ha (by omega)
        obtain ⟨bb, ob, rfl, hcb⟩ := hb (by omega)
        have c1 := hca k hlt
        have c2 := hcb k hlt2
        have d1 : decide (ys.length ≤ k) = false := decide_eq_false (by omega)
        clear hca hcb
        obtain ⟨u, hu⟩ : ∃ u, xs.getD k 0 = u := ⟨_, rfl⟩
        obtain ⟨v, hv⟩ : ∃ v, ys.getD k 0 = v := ⟨_, rfl⟩
        rw [hu] at c1
        rw [hv] at c2
        by_cases huv : u = v
        · subst huv
          have S := Lib.hid (show EqTo (k + 1) xs ys from fun j hj => by
            by_cases hjk : j = k
            · subst hjk; exact ⟨hlt2, hu.trans hv.symm⟩
            · exact HE.out j (by omega))
          clear hu hv
          go_wp2_with fail
          go_quiet (fail)
          go_wp2
          go_roundw
          case rel => exact ⟨k + 1, _, by omega, by go_num, S.out, rfl⟩
          case measure => simp [intOf]; omega
        · have hn : (u != v) = true := by simpa using huv
          have S := Lib.hid (show decide (xs = ys) = false from decide_eq_false (by rintro rfl; exact huv (hu.symm.trans hv)))
          clear hu hv huv
          go_wp2_with fail
          go_quiet (fail)
          go_wp2
          go_ret
          exact ⟨by rw [S.out]; rfl, _, World.drewN_drewN ..⟩
      · have d1 : decide (ys.length ≤ k) = true := decide_eq_true (by omega)
        have S := Lib.hid (show decide (xs = ys) = false from decide_eq_false (by rintro rfl; omega))
        clear ha hb
        go_wp2_with fail
        go_quiet (fail)
        go_wp2
        go_ret
        exact ⟨by rw [S.out]; rfl, _, World.drewN_drewN ..⟩
    · have hkx : k = xs.length := by omega
      subst hkx
      have hall := eqTo_all HE.out
      by_cases hl : xs.length = ys.length
      · have S := Lib.hid (show decide (xs = ys) = true from decide_eq_true (hall.1 hl))
        have hl2 : ((xs.length : Int) == (ys.length : Int)) = true := by simp; omega
        clear ha hb hall hl
        go_wp2
        go_ret
        exact ⟨by rw [S.out]; rfl, _, rfl⟩
      · have S := Lib.hid (show decide (xs = ys) = false from decide_eq_false (fun h => hl (hall.2 h)))
        have hl2 : ((xs.length : Int) == (ys.length : Int)) = false := by simp; omega
        clear ha hb hall hl
        go_wp2
        go_ret
        exact ⟨by rw [S.out]; rfl, _, rfl⟩


def RetB (b : Value) (w : World) (r : Ending) (w' : World) : Prop := r = .returned b ∧ Below w.heap.size w w'

theorem Turned.below {S : Nat → Prop} {base : Nat} {w w1 w2 : World} (h : Turned S w1 w2) (hb : Below base w w1) (hle : base ≤ w.heap.size) (hs : ∀ i, S i → base ≤ i) : Below base w w2 :=
  ⟨h.os.trans hb.os, h.tape.trans hb.tape, h.output.trans hb.output, Nat.le_trans hb.size h.size, fun i hi => (h.block i (Nat.lt_of_lt_of_le hi (Nat.le_trans hle hb.size)) (fun e => by have := hs i e; omega)).trans (hb.block i hi)⟩
theorem below_trans {n m : Nat} {w w1 w2 : World} (h : Below n w w1) (h2 : Below m w1 w2) (hm : n ≤ m) : Below n w w2 := h.trans (h2.mono hm)
theorem below_drewN {B : Nat} {a w : World} (h : Below B a w) (n : Nat) : Below B a (w.drewN n) := ⟨h.os, h.tape, h.output, h.size, h.block⟩

/-! ### The forms of the contracts that the walks of the laws use: frames of the law's beginning -/
theorem src_lit (w : World) (l : List Int) (hl : 0 < l.length) : Src (w.alloc (.cells (ints l).toArray 3)) (.slice (some ⟨w.heap.size, 0, none⟩) l.length l.length) l := by
  refine ⟨_, _, rfl, (fun e => nomatch e), fun _ => ⟨_, 0, rfl, fun j hj => ?_⟩⟩
  have := getElem?_ints l j hj
  simp only [World.cell?, heap_alloc_new, Nat.zero_add]
  simpa using this

theorem of_yes (v : Value) (l : List Int) (w : World) (h : Src w v l) (h0 : ofE l = 0) :
    Calls Try.prog 10 #[v] w fun r w' => ∃ b g, r = .returned (.tuple #[.pointer (some ⟨b, 0, none⟩), .int .i64 0]) ∧ CkAt w' b ⟨g, l, false⟩ ∧ Below w.heap.size w w' ∧ w.heap.size ≤ g ∧ w.heap.size ≤ b := by
  refine (of_any v l w h).mono ?_
  rintro r w' (⟨_, h⟩ | ⟨h1, _⟩)
  · exact h
  · exact absurd h0 h1
theorem of_weak (v : Value) (l : List Int) (w : World) (h : Src w v l) :
    Calls Try.prog 10 #[v] w fun r w' => ∃ p, r = .returned (.tuple #[p, .int .i64 (ofE l)]) ∧ Below w.heap.size w w' := by
  refine (of_any v l w h).mono ?_
  rintro r w' (⟨e, b, g, rfl, _, hB, _⟩ | ⟨_, rfl, rfl⟩)
  · exact ⟨_, by rw [e], hB⟩
  · exact ⟨_, rfl, Below.refl _ _⟩

theorem size_alloc (w : World) (o : Obj) : (w.alloc o).heap.size = w.heap.size + 1 := by simp
theorem below_alloc {w w1 : World} {o : Obj} (h : Below (w.alloc o).heap.size (w.alloc o) w1) : Below w.heap.size w w1 ∧ w.heap.size < w1.heap.size :=
  ⟨below_trans ((Below.refl _ _).alloc (Nat.le_refl _) _) h (by rw [size_alloc]; omega), by have := h.size; rw [size_alloc] at this; omega⟩
theorem CkAt.arr_lt {w : World} {b : Nat} {k : Ck} (h : CkAt w b k) (hp : 0 < k.xs.length) : k.arr < w.heap.size := by
  obtain ⟨_, _, _, _, _, hx⟩ := h
  obtain ⟨_, cur, hg, _⟩ := hx hp
  exact lt_of_heap hg
theorem max_lit (u : Int) : max (at0 [3, 0, 2] u) (at0 [1, 4] u) = at0 [3, 4, 2] u := by
  by_cases hu : 0 ≤ u ∧ u < 3
  · have : u = 0 ∨ u = 1 ∨ u = 2 := by omega
    rcases this with rfl | rfl | rfl <;> decide
  · rw [at0_out (l := [3, 0, 2]) (by simp; omega), at0_out (l := [1, 4]) (by simp; omega), at0_out (l := [3, 4, 2]) (by simp; omega)]; rfl

end Go.Proofs.Ytlkfhobacgnckaa

