
/-
  Contracts of package clock's functions Within and List; the plain laws of orders and lists.
-/
import Derived.Test.YtlkfhobacgnckaaClkW
import Derived.Deep.LoopGhost
import Derived.Laws.AppendOwnNone
namespace Go.Proofs.Ytlkfhobacgnckaa
open Go.RowKit
set_option linter.unusedVariables false
set_option linter.unusedSimpArgs false
set_option maxRecDepth 100000

def LeTo (k : Nat) (xs ys : List Int) : Prop := ∀ j, j < k → xs.getD j 0 ≤ at0 ys j
instance (k : Nat) (xs ys : List Int) : Decidable (LeTo k xs ys) := by unfold LeTo; infer_instance
def withinB (xs ys : List Int) : Bool := decide (LeTo xs.length xs ys)

theorem ints1 (l : List Int) : ∀ u ∈ ints l, u.oneCell' = true := ints_oneCell _ _

/-! ### append([]int{}, l...) -/
theorem wpList_clone {ops : Array Oper} {rest : List Oper} {o : Oper} {a : Act} {Q : Exit → Act → World → Prop} (w W : World) (hgd : o.guard = none) (s x : Operand)
    (ho : o.op = .call { callee := .builtin .append, args := #[s, x], argTypes := #[31, 31] })
    (hW : W = w.alloc (.cells #[] 3)) (hs : a.eval s = .slice (some ⟨w.heap.size, 0, none⟩) 0 0)
    (ao : Option Addr) (n cap : Nat) (l : List Int) (hx : a.eval x = .slice ao n cap) (hl : l.length = n) (hno : ao = none → n = 0 ∧ cap = 0)
    (hc : 0 < n → ∃ g z, ao = some ⟨g, z, none⟩ ∧ ∀ j, j < n → w.cell? ⟨g, z + j, none⟩ = some (.int .i64 (l.getD j 0))) (hn : n ≤ 1000000)
    (h : ∀ g cap' w', w.heap.size ≤ g → n ≤ cap' → Below w.heap.size w w' → w'.ownsRow w.heap.size 3 1 (.slice (some ⟨g, 0, none⟩) n cap') n (ints l) → wpList Try.prog ops Q rest (a.put o.dst (.slice (some ⟨g, 0, none⟩) n cap')) w') :
    wpList Try.prog ops Q (o :: rest) a W := by
  subst hW
  obtain ⟨i0, hi, hz0, hz1, hz2⟩ := info_parts info_int
  have hown : (w.alloc (.cells #[] 3)).ownsRow w.heap.size 3 1 (.slice (some ⟨w.heap.size, 0, none⟩) 0 0) 0 [] :=
    World.ownsRow_lit w #[] 0 (Nat.le_refl _) (Nat.zero_le _) rfl
  cases ao with
  | none =>
    obtain ⟨rfl, rfl⟩ := hno rfl
    obtain rfl := List.eq_nil_of_length_eq_zero hl
    exact wpList_append_own_none hgd s x 31 ho w.heap.size 3 i0 1 Try.underlying31 hi _ 0 [] hs hown hx (h _ _ _ (Nat.le_refl _) (Nat.le_refl _) ((Below.refl _ _).alloc (Nat.le_refl _) _) hown)
  | some ad =>
    refine wpList_append_own _ hgd s x 31 ho w.heap.size 3 i0 (.int .i64 0) 1 8 Try.underlying31 hi hz0 hz1 hz2 rfl (by decide) _ 0 [] hs hown ad n cap (ints l) hx (by rw [length_ints]; omega) ?_ (ints1 l) (by unfold maxLen; omega) (by omega) (by simp) ?_
    · intro j u hj
      have hjl : j < l.length := by
        have := (List.getElem?_eq_some_iff.1 hj).1
        rwa [length_ints] at this
      obtain ⟨g, z, e, hcc⟩ := hc (by omega)
      cases e
      rw [getElem?_ints l j hjl] at hj
      have h1 := hcc j (by omega)
      have ha : (⟨g, z, none⟩ : Addr).add j = ⟨g, z + j, none⟩ := by unfold Addr.add; split <;> simp_all
      rw [ha, ((Below.refl w.heap.size w).alloc (Nat.le_refl _) _).cell (p := ⟨g, z + j, none⟩) (block_lt_of_cell h1), h1]
      exact hj
    · intro v' w' h1 h2 h3
      simp only [Nat.zero_add, List.nil_append] at h1
      have hB : Below w.heap.size w w' := ((Below.refl _ _).alloc (Nat.le_refl _) _).grown h2 (by simp) (fun k hk => (hown.lt k hk).1)
      have h1' := h1
      rcases h1.2 with ⟨rfl, _⟩ | ⟨g, cap', cur, rfl, hg, _, hcp, _⟩
      · exact absurd (h3.1 rfl).1 (by simp)
      · exact h g cap' w' hg hcp hB h1'

/-- What lies behind a slice of a clock, for 'wpList_clone'. -/
theorem clone_src {w : World} {ao : Option Addr} {arr : Nat} {xs : List Int} (n : Nat) (hn : n ≤ xs.length) (hx : 0 < xs.length → ao = some ⟨arr, 0, none⟩ ∧ (∀ i, i < xs.length → w.cell? ⟨arr, i, none⟩ = some (.int .i64 (xs.getD i 0))) ∧ ∀ i, w.frozen? ⟨arr, i, none⟩ = false) :
    0 < n → ∃ g z, ao = some ⟨g, z, none⟩ ∧ ∀ j, j < n → w.cell? ⟨g, z + j, none⟩ = some (.int .i64 ((xs.take n).getD j 0)) := by
  intro hp
  obtain ⟨h1, h2, _⟩ := hx (by omega)
  refine ⟨arr, 0, h1, fun j hj => ?_⟩
  have : (xs.take n).getD j 0 = xs.getD j 0 := by simp [List.getD, List.getElem?_take, hj]
  rw [this, Nat.zero_add]
  exact h2 j (by omega)

/-! ### List -/
/-- How many numbers are left if the noughts at the end go. -/
def trimN (xs : List Int) : Nat → Nat
  | 0 => 0
  | n + 1 => if xs.getD n 0 = 0 then trimN xs n else n + 1
theorem trimN_succ (xs : List Int) (n : Nat) : trimN xs (n + 1) = if xs.getD n 0 = 0 then trimN xs n else n + 1 := rfl
def trim (xs : List Int) : List Int := xs.take (trimN xs xs.length)
theorem trimN_le (xs : List Int) : ∀ n, trimN xs n ≤ n
  | 0 => Nat.le_refl _
  | n + 1 => by
    unfold trimN
    split
    · exact Nat.le_succ_of_le (trimN_le xs n)
    · exact Nat.le_refl _
theorem length_trim (xs : List Int) : (trim xs).length = trimN xs xs.length := by
  have := trimN_le xs xs.length
  simp [trim]; omega

def ListPost (b : Nat) (k : Ck) (w : World) (r : Ending) (w' : World) : Prop :=
  ∃ v, r = .returned v ∧ w'.ownsRow w.heap.size 3 1 v (trim k.xs).length (ints (trim k.xs)) ∧ Below w.heap.size w w'

theorem list_nil (w : World) :
    Calls Try.prog 20 #[.pointer none] w fun r w' => r = .returned (.slice none 0 0) ∧ w = w' := by
  go_enter Try.func20, Try.ntmps20
  go_wp2
  go_ret
  exact ⟨rfl, rfl⟩

theorem list_any (b : Nat) (k : Ck) (w : World) (h : CkAt w b k) :
    Calls Try.prog 20 #[.pointer (some ⟨b, 0, none⟩)] w (ListPost b k w) := by
  have hbl := h.lt
  obtain ⟨i0, hi, hz0, hz1, hz2⟩ := info_parts info_int
  obtain ⟨ao, cap, hno, h0, h1, h2, h3, h4, h5, h6⟩ := h.facts2
  have H6 := Lib.hid h6
  clear h6
  have HN := Lib.hid hno
  clear hno
  go_enter Try.func20, Try.ntmps20
  go_wp2_with fail
  go_loopw [3] (fun i wr => ∃ n : Nat, n ≤ k.xs.length ∧ i = .int .i64 n ∧ trimN k.xs n = trimN k.xs k.xs.length ∧ wr = w) (fun i _ => (intOf i).toNat)
  case atStart => exact ⟨k.xs.length, by omega, rfl, rfl, rfl⟩
  case round =>
    obtain ⟨n, hn, rfl, htr, rfl⟩ := hrel
    have T := Lib.hid htr
    clear htr
    by_cases hz : 0 < n ∧ k.xs.getD (n - 1) 0 = 0
    · obtain ⟨m, rfl⟩ : ∃ m, n = m + 1 := ⟨n - 1, by omega⟩
      have hz' := hz.2
      clear hz
      simp only [Nat.add_sub_cancel] at hz'
      obtain ⟨rfl, hc, _⟩ := H6.out (by omega)
      have c0 := hc m (by omega)
      rw [hz'] at c0
      have T2 := Lib.hid (show trimN k.xs m = trimN k.xs k.xs.length by rw [← T.out, trimN_succ, if_pos hz'])
      clear hc hz'
      have e1 : ((m + 1 : Nat) : Int) - 1 = m := by omega
      have e2 : (0 : Int) < ((m + 1 : Nat) : Int) := by omega
      go_wp2_with fail
      go_roundw
      case rel => exact ⟨m, by omega, by go_num, T2.out, by trivial⟩
      case measure => simp [intOf] <;> omega
    · have hfin : trimN k.xs n = n := by
        cases n with
        | zero => rfl
        | succ m => rw [trimN_succ, if_neg (fun e => hz ⟨by omega, by simpa using e⟩)]
      have TN := Lib.hid (show trimN k.xs k.xs.length = n by rw [← T.out, hfin])
      have TR := Lib.hid (show trim k.xs = k.xs.take n by unfold trim; rw [TN.out])
      have hn256 : n ≤ 256 := by omega
      have LN := Lib.hid (show (k.xs.take n).length = n by simp; omega)
      have NO := Lib.hid (show ao = none → n = 0 ∧ cap = 0 from fun e => by have := HN.out e; omega)
      by_cases hp : 0 < n
      · obtain ⟨rfl, hc, _⟩ := H6.out (by omega)
        have c0 := hc (n - 1) (by omega)
        obtain ⟨m, rfl⟩ : ∃ m, n = m + 1 := ⟨n - 1, by omega⟩
        simp only [Nat.add_sub_cancel] at c0
        have hnz : k.xs.getD m 0 ≠ 0 := fun e => hz ⟨by omega, by simpa using e⟩
        obtain ⟨u, hu⟩ : ∃ u, k.xs.getD m 0 = u := ⟨_, rfl⟩
        rw [hu] at c0 hnz
        have hnz2 : (u == 0) = false := by simpa using hnz
        have e1 : ((m + 1 : Nat) : Int) - 1 = m := by omega
        have e2 : (0 : Int) < ((m + 1 : Nat) : Int) := by omega
        clear hc hu hz hfin hnz
        go_wp2_with (at_builtin; refine wpList_clone wr _ rfl _ _ rfl rfl rfl (some ⟨k.arr, 0, none⟩) (m + 1) cap (k.xs.take (m + 1)) rfl LN.out NO.out (clone_src (m + 1) (by omega) H6.out) (by omega) ?_; intro g cap' w' hg hcap hB hown)
        go_ret
        exact ⟨_, rfl, by rw [TR.out, LN.out]; exact hown, hB⟩
      · obtain rfl : n = 0 := by omega
        clear hz hfin hp
        go_wp2_with (at_builtin; refine wpList_clone wr _ rfl _ _ rfl rfl rfl ao 0 cap (k.xs.take 0) rfl LN.out NO.out (clone_src 0 (by omega) H6.out) (by omega) ?_; intro g cap' w' hg hcap hB hown)
        go_ret
        exact ⟨_, rfl, by rw [TR.out, LN.out]; exact hown, hB⟩

end Go.Proofs.Ytlkfhobacgnckaa

