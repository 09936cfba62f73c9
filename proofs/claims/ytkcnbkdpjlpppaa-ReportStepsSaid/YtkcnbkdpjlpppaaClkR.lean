
/-
  Contracts of package clock's functions Within and List; the plain laws of orders and lists.
-/
import Derived.Test.YtkcnbkdpjlpppaaClkW
import Derived.Deep.LoopGhost
import Derived.Laws.AppendOwnNone
namespace Go.Proofs.Ytkcnbkdpjlpppaa
open Go.RowKit
set_option linter.unusedVariables false
set_option linter.unusedSimpArgs false
set_option maxRecDepth 100000

def LeTo (k : Nat) (xs ys : List Int) : Prop := ∀ j, j < k → xs.getD j 0 ≤ at0 ys j
instance (k : Nat) (xs ys : List Int) : Decidable (LeTo k xs ys) := by unfold LeTo; infer_instance
def withinB (xs ys : List Int) : Bool := decide (LeTo xs.length xs ys)

theorem ints1 (l : List Int) : ∀ u ∈ ints l, u.oneCell' = true := ints_oneCell _ _

/-! ### append([]int{}, l...) -/
theorem wpList_clone {ops : Array Oper} {rest : List Oper} {o : Oper} {a : Act} {Q : Exit → Act → World → Prop} (w W : World) (hgd : o.guard = none) (s x : Operand)
    (ho : o.op = .call { callee := .builtin .append, args := #[s, x], argTypes := #[49, 49] })
    (hW : W = w.alloc (.cells #[] 3)) (hs : a.eval s = .slice (some ⟨w.heap.size, 0, none⟩) 0 0)
    (ao : Option Addr) (n cap : Nat) (l : List Int) (hx : a.eval x = .slice ao n cap) (hl : l.length = n) (hno : ao = none → n = 0 ∧ cap = 0)
    (hc : 0 < n → ∃ g z, ao = some ⟨g, z, none⟩ ∧ ∀ j, j < n → w.cell? ⟨g, z + j, none⟩ = some (.int .i64 (l.getD j 0))) (hn : n ≤ 1000000)
    (h : ∀ g cap' w', w.heap.size ≤ g → n ≤ cap' → Below w.heap.size w w' → w'.ownsRow w.heap.size 3 1 (.slice (some ⟨g, 0, none⟩) n cap') n (ints l) → wpList Try.prog ops Q rest (a.put o.dst (.slice (some ⟨g, 0, none⟩) n cap')) w') :
    wpList Try.prog ops Q (o :: rest) a W := by
  subst hW
  obtain ⟨i0, hi, hz0, hz1, hz2⟩ := info_parts info_int
  have hown : (w.alloc (.cells #[] 3)).ownsRow w.heap.size 3 1 (.slice (some ⟨w.heap.size, 0, none⟩) 0 0) 0 [] :=
    World.ownsRow_lit w #[] 0 (Nat.le_refl _) (Nat.zero_le _) rfl
  cases ao with
  | none =>
    obtain ⟨rfl, rfl⟩ := hno rfl
    obtain rfl := List.eq_nil_of_length_eq_zero hl
    exact wpList_append_own_none hgd s x 49 ho w.heap.size 3 i0 1 Try.underlying49 hi _ 0 [] hs hown hx (h _ _ _ (Nat.le_refl _) (Nat.le_refl _) ((Below.refl _ _).alloc (Nat.le_refl _) _) hown)
  | some ad =>
    refine wpList_append_own _ hgd s x 49 ho w.heap.size 3 i0 (.int .i64 0) 1 8 Try.underlying49 hi hz0 hz1 hz2 rfl (by decide) _ 0 [] hs hown ad n cap (ints l) hx (by rw [length_ints]; omega) ?_ (ints1 l) (by unfold maxLen; omega) (by omega) (by simp) ?_
    · intro j u hj
      have hjl : j < l.length := by
        have := (List.getElem?_eq_some_iff.1 hj).1
        rwa [length_ints] at this
      obtain ⟨g, z, e, hcc⟩ := hc (by omega)
      cases e
      rw [getElem?_ints l j hjl] at hj
      have h1 := hcc j (by omega)
      have ha : (⟨g, z, none⟩ : Addr).add j = ⟨g, z + j, none⟩ := by unfold Addr.add; split <;> simp_all
      rw [ha, ((Below.refl w.heap.size w).alloc (Nat.le_refl _) _).cell (p := ⟨g, z + j, none⟩) (block_lt_of_cell h1), h1]
      exact hj
    · intro v' w' h1 h2 h3
      simp only [Nat.zero_add, List.nil_append] at h1
      have hB : Below w.heap.size w w' := ((Below.refl _ _).alloc (Nat.le_refl _) _).grown h2 (by simp) (fun k hk => (hown.lt k hk).1)
      have h1' := h1
      rcases h1.2 with ⟨rfl, _⟩ | ⟨g, cap', cur, rfl, hg, _, hcp, _⟩
      · exact absurd (h3.1 rfl).1 (by simp)
      · exact h g cap' w' hg hcp hB h1'

/-- What lies behind a slice of a clock, for 'wpList_clone'. -/
theorem clone_src {w : World} {ao : Option Addr} {arr : Nat} {xs : List Int} (n : Nat) (hn : n ≤ xs.length) (hx : 0 < xs.length → ao = some ⟨arr, 0, none⟩ ∧ (∀ i, i < xs.length → w.cell? ⟨arr, i, none⟩ = some (.int .i64 (xs.getD i 0))) ∧ ∀ i, w.frozen? ⟨arr, i, none⟩ = false) :
    0 < n → ∃ g z, ao = some ⟨g, z, none⟩ ∧ ∀ j, j < n → w.cell? ⟨g, z + j, none⟩ = some (.int .i64 ((xs.take n).getD j 0)) := by
  intro hp
  obtain ⟨h1, h2, _⟩ := hx (by omega)
  refine ⟨arr, 0, h1, fun j hj => ?_⟩
  have : (xs.take n).getD j 0 = xs.getD j 0 := by simp [List.getD, List.getElem?_take, hj]
  rw [this, Nat.zero_add]
  exact h2 j (by omega)

/-! ### List -/
/-- How many numbers are left if the noughts at the end go. -/
def trimN (xs : List Int) : Nat → Nat
  | 0 => 0
  | n + 1 => if xs.getD n 0 = 0 then trimN xs n else n + 1
theorem trimN_succ (xs : List Int) (n : Nat) : trimN xs (n + 1) = if xs.getD n 0 = 0 then trimN xs n else n + 1 := rfl
def trim (xs : List Int) : List Int := xs.take (trimN xs xs.length)
theorem trimN_le (xs : List Int) : ∀ n, trimN xs n ≤ n
  | 0 => Nat.le_refl _
  | n + 1 => by
    unfold trimN
    split
    · exact Nat.le_succ_of_le (trimN_le xs n)
    · exact Nat.le_refl _
theorem length_trim (xs : List Int) : (trim xs).length = trimN xs xs.length := by
  have := trimN_le xs xs.length
  simp [trim]; omega

def ListPost (b : Nat) (k : Ck) (w : World) (r : Ending) (w' : World) : Prop :=
  ∃ v, r = .returned v ∧ w'.ownsRow w.heap.size 3 1 v (trim k.xs).length (ints (trim k.xs)) ∧ Below w.heap.size w w'

end Go.Proofs.Ytkcnbkdpjlpppaa

