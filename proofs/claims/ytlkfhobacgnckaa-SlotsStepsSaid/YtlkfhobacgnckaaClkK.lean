
/-
  The contract of package clock's Join.
-/
import Derived.Test.YtlkfhobacgnckaaClkJ
import Derived.Deep.RegionWith
namespace Go.Proofs.Ytlkfhobacgnckaa
open Go.RowKit
set_option linter.unusedVariables false
set_option linter.unusedSimpArgs false
set_option maxRecDepth 100000

theorem CkAt.frame {w w' : World} {b : Nat} {k : Ck} (h : CkAt w b k) (hf : ∀ i, i < w.heap.size → (i = b ∨ (0 < k.xs.length ∧ i = k.arr)) → w'.heap[i]? = w.heap[i]?) : CkAt w' b k := by
  obtain ⟨ao, cap, hb, hc, ho, hx⟩ := h
  refine ⟨ao, cap, by rw [hf b (lt_of_heap hb) (.inl rfl)]; exact hb, hc, ho, fun hp => ?_⟩
  obtain ⟨h1, cur, h2, h3⟩ := hx hp
  exact ⟨h1, cur, by rw [hf k.arr (lt_of_heap h2) (.inr ⟨hp, rfl⟩)]; exact h2, h3⟩

/-- A clock's block is no block of numbers. -/
theorem CkAt.ne {w : World} {b b' : Nat} {k k' : Ck} (h : CkAt w b k) (h' : CkAt w b' k') (hp : 0 < k'.xs.length) : b ≠ k'.arr := by
  obtain ⟨ao, cap, hb, _⟩ := h
  obtain ⟨_, _, _, _, _, hx⟩ := h'
  obtain ⟨_, cur, hg, _⟩ := hx hp
  intro e
  rw [e] at hb
  rw [hb] at hg
  have := Option.some.inj hg
  injection this with e1 e2
  exact absurd e2 (by decide)

def OwnAny (b : Nat) (k : Ck) (n : Nat) (w : World) (r : Ending) (w' : World) : Prop :=
  r = .returned (.tuple #[]) ∧ ∃ k1 : Ck, CkAt w' b k1 ∧ k1.sh = false ∧ n ≤ k1.xs.length ∧ (∀ u, at0 k1.xs u = at0 k.xs u) ∧ Turned (fun i => i = b) w w' ∧ ((k1 = k ∧ w = w') ∨ w.heap.size ≤ k1.arr)

theorem own_any (b : Nat) (k : Ck) (n : Nat) (w : World) (h : CkAt w b k) (hn : n ≤ 256) :
    Calls Try.prog 39 #[.pointer (some ⟨b, 0, none⟩), .int .i64 n] w (OwnAny b k n w) := by
  by_cases hm : k.xs.length < n
  · refine (own_more b k n w h hn hm _ rfl).mono ?_
    rintro r w' ⟨rfl, g, hg, hk, hw⟩
    exact ⟨rfl, _, hk, rfl, by rw [length_pad _ _ (by omega)]; exact Nat.le_refl _, fun u => at0_pad _ _ _, Turned.of_grown hw, .inr hg⟩
  · cases hs : k.sh with
    | true =>
      refine (own_shared b k n w h (by omega) hs).mono ?_
      rintro r w' ⟨rfl, g, hg, hk, hw⟩
      exact ⟨rfl, _, hk, rfl, by rw [length_pad _ _ (by omega)]; omega, fun u => at0_pad _ _ _, Turned.of_grown hw, .inr hg⟩
    | false =>
      refine (own_none b k n w h (by omega) hs).mono ?_
      rintro r w' ⟨rfl, rfl⟩
      exact ⟨rfl, k, h, hs, by omega, fun _ => rfl, Turned.refl _ _, .inl ⟨rfl, rfl⟩⟩

/-- The numbers as far as n: the greater ones; from there on as they were. -/
def MaxTo (n : Nat) (xs ys zs : List Int) : Prop := ∀ u : Int, at0 zs u = if u < n then max (at0 xs u) (at0 ys u) else at0 xs u

theorem MaxTo.all {xs ys zs : List Int} (h : MaxTo ys.length xs ys zs) (hx : OkL xs) (u : Int) : at0 zs u = max (at0 xs u) (at0 ys u) := by
  rw [h u]
  split
  · rfl
  · have := at0_out (l := ys) (t := u) (by omega)
    have := at0_ok hx u
    omega
theorem MaxTo.next {n : Nat} {xs ys zs : List Int} (h : MaxTo n xs ys zs) (hn : n < zs.length) : MaxTo (n + 1) xs ys (zs.set n (max (at0 xs n) (at0 ys n))) := by
  intro u
  rw [at0_set _ _ _ _ hn, h u]
  by_cases hu : u = n
  · subst hu; rw [if_pos rfl, if_pos (by omega)]
  · rw [if_neg hu]
    by_cases h2 : u < n
    · rw [if_pos h2, if_pos (by omega)]
    · rw [if_neg h2, if_neg (by omega)]

def JoinPost (b : Nat) (k ko : Ck) (w : World) (r : Ending) (w' : World) : Prop :=
  (withinB ko.xs k.xs = true ∧ r = .returned (.bool false) ∧ w = w') ∨ (withinB ko.xs k.xs = false ∧ r = .returned (.bool true) ∧ ∃ k', Wrote w b k k' w' ∧ ∀ u, at0 k'.xs u = max (at0 k.xs u) (at0 ko.xs u))

theorem drewN_os (w : World) (m : Nat) : (w.drewN m).os = w.os := by cases m <;> rfl
theorem drewN_tape (w : World) (m : Nat) : (w.drewN m).tape = w.tape := by cases m <;> rfl
theorem drewN_output (w : World) (m : Nat) : (w.drewN m).output = w.output := by cases m <;> rfl

/-- What the loop of Join has come to. -/
structure JoinAt (w1 : World) (b : Nat) (k1 ko : Ck) (n : Nat) (ys : List Int) (wr : World) : Prop where
  ck : CkAt wr b ⟨k1.arr, ys, false⟩
  len : ys.length = k1.xs.length
  mx : MaxTo n k1.xs ko.xs ys
  turned : Turned (fun i => i = k1.arr) w1 wr

theorem JoinAt.next {w1 wr : World} {b : Nat} {k1 ko : Ck} {n : Nat} {ys : List Int} (h : JoinAt w1 b k1 ko n ys wr) (hn : n < ko.xs.length) (hl : ko.xs.length ≤ k1.xs.length) (hk : OkL k1.xs) (hko : OkL ko.xs) (v : Int) (hv : v = max (at0 k1.xs n) (at0 ko.xs n)) :
    JoinAt w1 b k1 ko (n + 1) (ys.set n v) (wr.setCell ⟨k1.arr, n, none⟩ (.int .i64 v)).drew := by
  subst hv
  have a := at0_ok hk n
  have c := at0_ok hko n
  have hlt : n < ys.length := by rw [h.len]; omega
  refine ⟨(stored_ck (k := ⟨k1.arr, ys, false⟩) h.ck n _ hlt (by omega) (by omega)).frame (fun _ _ _ => rfl), by rw [List.length_set]; exact h.len, h.mx.next hlt, ?_⟩
  refine Turned.trans (T := fun i => i = k1.arr) h.turned ⟨rfl, rfl, rfl, by simp [World.setCell, World.drew], fun i hi hne => ?_⟩ (fun _ _ e => e) (fun _ _ e => e)
  exact heap_setCell_other _ _ _ _ hne

end Go.Proofs.Ytlkfhobacgnckaa

