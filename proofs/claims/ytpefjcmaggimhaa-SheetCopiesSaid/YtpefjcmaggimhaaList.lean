
/-
  Lists of numbers as bytes: the plain functions, and the contracts of staitheplain.Ints, reel.TakeList and staitheref03.TakeList.
-/
import Derived.Test.YtpefjcmaggimhaaRef3
import Derived.Deep.LoopGhost
namespace Go.Proofs.Ytpefjcmaggimhaa
open Go.RowKit
set_option linter.unusedVariables false
set_option linter.unusedSimpArgs false
set_option maxRecDepth 100000

/-! ### Slices of numbers, read -/
def ints (l : List Int) : List Value := l.map (Value.int .i64)
theorem length_ints (l : List Int) : (ints l).length = l.length := by simp [ints]
theorem ints_append (l m : List Int) : ints (l ++ m) = ints l ++ ints m := by simp [ints]
theorem getElem?_ints (l : List Int) (i : Nat) (h : i < l.length) : (ints l)[i]? = some (.int .i64 (l.getD i 0)) := by
  simp [ints, h]

/-- A slice value reads as the numbers xs. -/
def SlI (w : World) (v : Value) (xs : List Int) : Prop :=
  ∃ ao cap, v = .slice ao xs.length cap ∧ (0 < xs.length → ∃ b o, ao = some ⟨b, o, none⟩ ∧ ∀ i, i < xs.length → w.cell? ⟨b, o + i, none⟩ = some (.int .i64 (xs.getD i 0)))

theorem SlI.of_owns {w : World} {base : Nat} {e : TypeId} {v : Value} {n : Nat} {xs : List Int} (h : w.ownsRow base e 1 v n (ints xs)) : SlI w v xs := by
  have hl := h.1
  rw [length_ints] at hl
  obtain rfl : xs.length = n := by omega
  rcases h.2 with ⟨rfl, h0⟩ | ⟨g, cap, cur, rfl, _, hg, _, _, hcs, ht⟩
  · exact ⟨none, 0, by rw [h0], fun hp => by omega⟩
  · refine ⟨_, cap, rfl, fun _ => ⟨g, 0, rfl, fun i hi => ?_⟩⟩
    have h2 := getElem?_ints xs i hi
    rw [← ht, List.getElem?_take_of_lt (by omega)] at h2
    simp only [World.cell?, hg, Nat.zero_add]
    simpa using h2
theorem SlI.nil (w : World) : SlI w (.slice none 0 0) [] := ⟨none, 0, rfl, fun h => by simp at h⟩
theorem SlI.next {w w' : World} {v : Value} {xs : List Int} (h : SlI w v xs) (hb : ∀ b o u, w.cell? ⟨b, o, none⟩ = some u → w'.cell? ⟨b, o, none⟩ = some u) : SlI w' v xs := by
  obtain ⟨ao, cap, rfl, h⟩ := h
  refine ⟨ao, cap, rfl, fun hp => ?_⟩
  obtain ⟨b, o, rfl, hc⟩ := h hp
  exact ⟨b, o, rfl, fun i hi => hb _ _ _ (hc i hi)⟩
theorem SlI.below {w w' : World} {v : Value} {xs : List Int} (h : SlI w v xs) (hb : Below w.heap.size w w') : SlI w' v xs :=
  h.next fun b o u hu => by rw [hb.cell (p := ⟨b, o, none⟩) (block_lt_of_cell hu)]; exact hu

/-- Are two lists alike as far as k? -/
def EqTo (k : Nat) (xs ys : List Int) : Prop := ∀ j, j < k → j < ys.length ∧ xs.getD j 0 = ys.getD j 0

theorem eqTo_all {xs ys : List Int} (h : EqTo xs.length xs ys) : (xs.length = ys.length ↔ xs = ys) := by
  constructor
  · intro hl
    apply List.ext_getElem hl
    intro i h1 h2
    have := (h i h1).2
    simpa [List.getD, h1, h2] using this
  · intro h; rw [h]

def IntsPost (xs ys : List Int) (w : World) (r : Ending) (w' : World) : Prop := r = .returned (.bool (decide (xs = ys))) ∧ ∃ n, w' = w.drewN n

theorem ints_any (a b : Value) (xs ys : List Int) (w : World) (ha : SlI w a xs) (hb : SlI w b ys) (hx : xs.length ≤ 140737488351232) (hy : ys.length ≤ 140737488351232) :
    Calls Try.prog 19 #[a, b] w (IntsPost xs ys w) := by
  obtain ⟨ao, ca, rfl, ha⟩ := ha
  obtain ⟨bo, cb, rfl, hb⟩ := hb
  go_enter Try.func19, Try.ntmps19
  go_wp2_with fail
  go_loopw [8] (fun i wr => ∃ k m : Nat, k ≤ xs.length ∧ i = .int .i64 k ∧ EqTo k xs ys ∧ wr = w.drewN m) (fun i _ => xs.length - (intOf i).toNat)
  case atStart => exact ⟨0, 0, by omega, rfl, fun j hj => by omega, rfl⟩
  case round =>
    obtain ⟨k, m, hk, rfl, he, rfl⟩ := hrel
    have HE := Lib.hid he
    clear he
    by_cases hlt : k < xs.length
    · by_cases hlt2 : k < ys.length
      · obtain ⟨ba, oa, rfl, hca⟩ := ha (by omega)
        obtain ⟨bb, ob, rfl, hcb⟩ := hb (by omega)
        have c1 := hca k hlt
        have c2 := hcb k hlt2
        have d1 : decide (ys.length ≤ k) = false := decide_eq_false (by omega)
        clear hca hcb
        obtain ⟨u, hu⟩ : ∃ u, xs.getD k 0 = u := ⟨_, rfl⟩
        obtain ⟨v, hv⟩ : ∃ v, ys.getD k 0 = v := ⟨_, rfl⟩
        rw [hu] at c1
        rw [hv] at c2
        by_cases huv : u = v
        · subst huv
          have S := Lib.hid (show EqTo (k + 1) xs ys from fun j hj => by
            by_cases hjk : j = k
            · subst hjk; exact ⟨hlt2, hu.trans hv.symm⟩
            · exact HE.out j (by omega))
          clear hu hv
          go_wp2_with fail
          go_quiet (fail)
          go_wp2
          go_roundw
          case rel => exact ⟨k + 1, _, by omega, by go_num, S.out, rfl⟩
          case measure => simp [intOf]; omega
        · have hn : (u != v) = true := by simpa using huv
          have S := Lib.hid (show decide (xs = ys) = false from decide_eq_false (by rintro rfl; exact huv (hu.symm.trans hv)))
          clear hu hv huv
          go_wp2_with fail
          go_quiet (fail)
          go_wp2
          go_ret
          exact ⟨by rw [S.out]; rfl, _, World.drewN_drewN ..⟩
      · have d1 : decide (ys.length ≤ k) = true := decide_eq_true (by omega)
        have S := Lib.hid (show decide (xs = ys) = false from decide_eq_false (by rintro rfl; omega))
        clear ha hb
        go_wp2_with fail
        go_quiet (fail)
        go_wp2
        go_ret
        exact ⟨by rw [S.out]; rfl, _, World.drewN_drewN ..⟩
    · have hkx : k = xs.length := by omega
      subst hkx
      have hall := eqTo_all HE.out
      by_cases hl : xs.length = ys.length
      · have S := Lib.hid (show decide (xs = ys) = true from decide_eq_true (hall.1 hl))
        have hl2 : ((xs.length : Int) == (ys.length : Int)) = true := by simp; omega
        clear ha hb hall hl
        go_wp2
        go_ret
        exact ⟨by rw [S.out]; rfl, _, rfl⟩
      · have S := Lib.hid (show decide (xs = ys) = false from decide_eq_false (fun h => hl (hall.2 h)))
        have hl2 : ((xs.length : Int) == (ys.length : Int)) = false := by simp; omega
        clear ha hb hall hl
        go_wp2
        go_ret
        exact ⟨by rw [S.out]; rfl, _, rfl⟩

end Go.Proofs.Ytpefjcmaggimhaa

