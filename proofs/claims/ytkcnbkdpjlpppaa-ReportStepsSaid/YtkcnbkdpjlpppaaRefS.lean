
/-
  staitheref02: Get, Set, Tick, Join, Within, List of a clock that lies anywhere.
-/
import Derived.Test.YtkcnbkdpjlpppaaRefC
import Derived.Deep.QuietTactic
import Derived.Deep.RegionWith
namespace Go.Proofs.Ytkcnbkdpjlpppaa
open Go.RowKit
set_option linter.unusedVariables false
set_option linter.unusedSimpArgs false
set_option maxRecDepth 100000

/-- The 256 cells from a place on are this clock. -/
def RC (w : World) (b o : Nat) (ns : List Int) : Prop := ns.length = 256 ∧ (∀ i, i < 256 → w.cell? ⟨b, o + i, none⟩ = some (.int .i64 (ns.getD i 0))) ∧ ∀ i, w.frozen? ⟨b, i, none⟩ = false
theorem RC.range {w : World} {b o : Nat} {ns : List Int} (h : RC w b o ns) : w.rangeAt b o (ints ns) := by
  intro j v hj
  have hl : j < ns.length := by
    have := (List.getElem?_eq_some_iff.1 hj).1
    rwa [length_ints] at this
  rw [getElem?_ints ns j hl] at hj
  rw [h.2.1 j (by have := h.1; omega)]
  exact hj
theorem RC.lt {w : World} {b o : Nat} {ns : List Int} (h : RC w b o ns) : b < w.heap.size := block_lt_of_cell (h.2.1 0 (by omega))
theorem RC.below {w w' : World} {b o : Nat} {ns : List Int} (h : RC w b o ns) {n : Nat} (hn : w.heap.size ≤ n) (hB : Below n w w') : RC w' b o ns := by
  have hb : b < n := Nat.lt_of_lt_of_le h.lt hn
  exact ⟨h.1, fun i hi => by rw [hB.cell (p := ⟨b, o + i, none⟩) hb]; exact h.2.1 i hi, fun i => by rw [hB.frozen (p := ⟨b, i, none⟩) hb]; exact h.2.2 i⟩
theorem RC.set {w : World} {b o : Nat} {ns : List Int} (h : RC w b o ns) (t : Nat) (ht : t < 256) (n : Int) : RC (w.setCell ⟨b, o + t, none⟩ (.int .i64 n)) b o (ns.set t n) := by
  refine ⟨by rw [List.length_set]; exact h.1, fun i hi => ?_, fun i => by rw [World.frozen?_setCell]; exact h.2.2 i⟩
  have hl := h.1
  by_cases hit : i = t
  · subst hit
    rw [World.cell?_setCell_same _ _ _ (h.2.1 i hi)]
    simp [List.getD, hl, hi]
  · rw [World.cell?_setCell_other _ _ _ _ (by intro e; injection e with e1 e2; omega), h.2.1 i hi]
    simp [List.getD, List.getElem?_set, show ¬ t = i from fun e => hit e.symm]

theorem rc_get (b o : Nat) (ns : List Int) (t : Int) (w : World) (h : RC w b o ns) :
    Calls Try.prog 60 #[.pointer (some ⟨b, o, none⟩), .int .i64 t] w fun r w' => r = .returned (.int .i64 (at0 ns t)) ∧ w = w' := by
  by_cases ht : 0 ≤ t ∧ t < 256
  · obtain ⟨n, rfl⟩ := Int.eq_ofNat_of_zero_le ht.1
    have h2 : (n : Int) < 256 := ht.2
    have c0 := h.2.1 n (by omega)
    have E := Lib.hid (at0_nat ns n)
    obtain ⟨u, hu⟩ : ∃ u, ns.getD n 0 = u := ⟨_, rfl⟩
    rw [hu] at c0
    have U := Lib.hid hu
    clear hu ht
    go_enter Try.func60, Try.ntmps60
    go_wp2_with fail
    go_ret
    exact ⟨by rw [E.out, U.out]; rfl, rfl⟩
  · have hz := Lib.hid (show at0 ns t = 0 from at0_out (by have := h.1; omega))
    by_cases h0 : t < 0
    · go_enter Try.func60, Try.ntmps60
      go_wp2_with fail
      go_ret
      exact ⟨by rw [hz.out]; rfl, rfl⟩
    · have h0' : 0 ≤ t := by omega
      have h1 : 256 ≤ t := by omega
      go_enter Try.func60, Try.ntmps60
      go_wp2_with fail
      go_ret
      exact ⟨by rw [hz.out]; rfl, rfl⟩

def RTick (b o : Nat) (ns : List Int) (t : Nat) (most : Int) (w : World) (r : Ending) (w' : World) : Prop :=
  (most ≤ ns.getD t 0 ∧ r = .returned (.int .i64 5) ∧ w = w') ∨ (ns.getD t 0 < most ∧ r = .returned (.int .i64 0) ∧ w' = (w.setCell ⟨b, o + t, none⟩ (.int .i64 (ns.getD t 0 + 1))).drew)
def LeT (n : Nat) (a b : List Int) : Prop := ∀ j, j < n → a.getD j 0 ≤ b.getD j 0
instance (n : Nat) (a b : List Int) : Decidable (LeT n a b) := by unfold LeT; infer_instance
def leB (a b : List Int) : Bool := decide (LeT 256 a b)

theorem boxed {w W : World} {Z : Array Value} {ns : List Int} {t : TypeId} (hZ : (ints ns).toArray = Z) (hl : ns.length = 256) (hW : w.alloc (.cells Z t) = W) : RC W w.heap.size 0 ns ∧ Below w.heap.size w W := by
  subst hZ hW
  refine ⟨⟨hl, fun i hi => ?_, fun i => by simp only [World.frozen?, heap_alloc_new]; simp⟩, (Below.refl _ _).alloc (Nat.le_refl _) _⟩
  have := getElem?_ints ns i (by omega)
  simp only [World.cell?, heap_alloc_new, Nat.zero_add]
  simpa using this

theorem cell_newS (W : World) (v : Value) (t : TypeId) : (W.alloc (.cells #[v] t)).cell? ⟨W.heap.size, 0, none⟩ = some v := by simp
def RCList (ns : List Int) (w : World) (r : Ending) (w' : World) : Prop := ∃ v, r = .returned v ∧ Src w' v (trim ns) ∧ Below w.heap.size w w'

/-- Of block b nothing but the n cells from o on has turned; of all other old blocks nothing. -/
structure Only (b o n : Nat) (w w' : World) : Prop where
  os : w'.os = w.os
  tape : w'.tape = w.tape
  output : w'.output = w.output
  size : w.heap.size ≤ w'.heap.size
  block : ∀ i, i < w.heap.size → i ≠ b → w'.heap[i]? = w.heap[i]?
  here : ∀ (cur : Array Value) (e : TypeId), w.heap[b]? = some (Obj.cells cur e (0, 0)) → ∃ cur' : Array Value, w'.heap[b]? = some (Obj.cells cur' e (0, 0)) ∧ cur'.size = cur.size ∧ ∀ j, (j < o ∨ o + n ≤ j) → cur'[j]? = cur[j]?
theorem Only.refl (b o n : Nat) (w : World) : Only b o n w w := ⟨rfl, rfl, rfl, Nat.le_refl _, fun _ _ _ => rfl, fun cur e h => ⟨cur, h, rfl, fun _ _ => rfl⟩⟩
theorem Only.trans {b o n : Nat} {u v w : World} (h : Only b o n u v) (k : Only b o n v w) : Only b o n u w := by
  refine ⟨k.os.trans h.os, k.tape.trans h.tape, k.output.trans h.output, Nat.le_trans h.size k.size, fun i hi hb => (k.block i (Nat.lt_of_lt_of_le hi h.size) hb).trans (h.block i hi hb), fun cur e hc => ?_⟩
  obtain ⟨c1, h1, s1, e1⟩ := h.here cur e hc
  obtain ⟨c2, h2, s2, e2⟩ := k.here c1 e h1
  exact ⟨c2, h2, s2.trans s1, fun j hj => (e2 j hj).trans (e1 j hj)⟩
theorem Only.of_below {b o n : Nat} {w w' : World} (hB : Below w.heap.size w w') : Only b o n w w' :=
  ⟨hB.os, hB.tape, hB.output, hB.size, fun i hi _ => hB.block i hi, fun cur e h => ⟨cur, (hB.block b (lt_of_heap h)).trans h, rfl, fun _ _ => rfl⟩⟩
theorem Only.of_set {b o n t : Nat} {w : World} (v : Value) (ht : t < n) : Only b o n w (w.setCell ⟨b, o + t, none⟩ v) := by
  refine ⟨rfl, rfl, rfl, by simp [World.setCell], fun i _ hb => heap_setCell_other _ _ _ _ hb, fun cur e h => ⟨_, heap_setCell_same w b (o + t) _ _ _ h, by rw [Array.size_setIfInBounds], fun j hj => ?_⟩⟩
  rw [Array.getElem?_setIfInBounds]
  rw [if_neg (by omega)]
theorem Only.drew {b o n : Nat} {w w' : World} (h : Only b o n w w') : Only b o n w w'.drew := ⟨h.os, h.tape, h.output, h.size, h.block, h.here⟩

theorem RC.drawn {w : World} {b o : Nat} {ns : List Int} (h : RC w b o ns) (m : Nat) : RC (w.drewN m) b o ns := ⟨h.1, h.2.1, h.2.2⟩
theorem RC.other {w : World} {b o c q : Nat} {ns : List Int} {v : Value} (h : RC w b o ns) (hne : b ≠ c) : RC (w.setCell ⟨c, q, none⟩ v) b o ns :=
  ⟨h.1, fun i hi => by rw [World.cell?_setCell_other _ _ _ _ (by intro e; injection e with e1 e2; exact hne e1.symm)]; exact h.2.1 i hi, fun i => by rw [World.frozen?_setCell]; exact h.2.2 i⟩

/-- Of each number the greater one. -/
def maxZ (xs ys : List Int) : List Int := (List.range 256).map fun j => if xs.getD j 0 < ys.getD j 0 then ys.getD j 0 else xs.getD j 0
def RJoin (b o : Nat) (xs ys : List Int) (w : World) (r : Ending) (w' : World) : Prop :=
  ∃ zs, r = .returned (.bool (!leB ys xs)) ∧ RC w' b o zs ∧ (∀ j, j < 256 → zs.getD j 0 = max (xs.getD j 0) (ys.getD j 0)) ∧ Only b o 256 w w'

end Go.Proofs.Ytkcnbkdpjlpppaa

