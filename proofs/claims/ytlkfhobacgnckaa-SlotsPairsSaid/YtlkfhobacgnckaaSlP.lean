
/-
  The plain law of SlotsPairs: which send and which receive is the k'th, and what slots keep of them.
-/
import Derived.Test.YtlkfhobacgnckaaSlB
namespace Go.Proofs.Ytlkfhobacgnckaa
set_option linter.unusedVariables false
set_option linter.unusedSimpArgs false

/-- At which places sends and receives were done. -/
structure Wk where
  S : List Nat
  R : List Nat
def Wk.n (p : Wk) : Nat := p.S.length - p.R.length
def Wk.step (size : Nat) (p : Wk) (i : Nat) (is : Bool) : Wk :=
  if is then (if p.n < max 1 size then ⟨p.S ++ [i], p.R⟩ else p) else (if 0 < p.n then ⟨p.S, p.R ++ [i]⟩ else p)
def walkP (size : Nat) (l : List Bool) : Nat → Wk
  | 0 => ⟨[], []⟩
  | i + 1 => (walkP size l i).step size i (l.getD i false)
def Wk.sel (p : Wk) (send : Bool) : List Nat := if send then p.S else p.R
theorem walkP_succ (size : Nat) (l : List Bool) (i : Nat) : walkP size l (i + 1) = (walkP size l i).step size i (l.getD i false) := rfl

theorem Wk.step_sel (size : Nat) (p : Wk) (i : Nat) (is send : Bool) : ((p.step size i is).sel send = p.sel send ∨ (p.step size i is).sel send = p.sel send ++ [i]) := by
  unfold Wk.step Wk.sel
  cases is <;> cases send <;> simp <;> split <;> simp
theorem walkP_pre (size : Nat) (l : List Bool) (send : Bool) (i : Nat) : ∀ d, ∃ t, (walkP size l (i + d)).sel send = (walkP size l i).sel send ++ t
  | 0 => ⟨[], by simp⟩
  | d + 1 => by
    obtain ⟨t, ht⟩ := walkP_pre size l send i d
    rw [← Nat.add_assoc, walkP_succ]
    rcases Wk.step_sel size (walkP size l (i + d)) (i + d) (l.getD (i + d) false) send with h | h
    · exact ⟨t, by rw [h, ht]⟩
    · exact ⟨t ++ [i + d], by rw [h, ht, List.append_assoc]⟩
theorem walkP_at (size : Nat) (l : List Bool) (send : Bool) {i j : Nat} (hij : i ≤ j) {k : Nat} (hk : k < ((walkP size l i).sel send).length) : ((walkP size l j).sel send).getD k 0 = ((walkP size l i).sel send).getD k 0 ∧ k < ((walkP size l j).sel send).length := by
  obtain ⟨t, ht⟩ := walkP_pre size l send i (j - i)
  rw [show i + (j - i) = j by omega] at ht
  rw [ht]
  refine ⟨?_, by rw [List.length_append]; omega⟩
  simp only [List.getD]
  rw [List.getElem?_append_left hk]
theorem walkP_ok (size : Nat) (l : List Bool) : ∀ i, (walkP size l i).R.length ≤ (walkP size l i).S.length ∧ (walkP size l i).n ≤ max 1 size ∧ (walkP size l i).S.length ≤ i
  | 0 => by simp [walkP, Wk.n]
  | i + 1 => by
    obtain ⟨h1, h2, h3⟩ := walkP_ok size l i
    rw [walkP_succ]
    unfold Wk.n at h2
    unfold Wk.step
    cases l.getD i false with
    | true =>
      simp only [if_true]
      split
      · rename_i hn
        unfold Wk.n at hn ⊢
        simp only [List.length_append, List.length_singleton]
        omega
      · unfold Wk.n; omega
    | false =>
      simp only [Bool.false_eq_true, if_false]
      split
      · rename_i hn
        unfold Wk.n at hn ⊢
        simp only [List.length_append, List.length_singleton]
        omega
      · unfold Wk.n; omega

def one1 (p : Nat) : List Int := [(p : Int) + 1]
/-- What slots hold behind a walk. -/
def mdOf (size : Nat) (p : Wk) : Md := ⟨size, (p.S.drop p.R.length).map one1, if size = 0 then [] else (p.R.drop (p.S.length - size)).map one1, p.S.length, p.R.length, none⟩

theorem mdOf_full (size : Nat) (p : Wk) : (mdOf size p).full = !decide (p.n < max 1 size) := by
  unfold Md.full mdOf Wk.n
  simp only [List.length_map, List.length_drop]
  by_cases h : p.S.length - p.R.length < max 1 size
  · rw [decide_eq_true h, decide_eq_false (by omega)]; rfl
  · rw [decide_eq_false h, decide_eq_true (by omega)]; rfl
theorem mdOf_sendE (size : Nat) (p : Wk) : (mdOf size p).sendE = if p.n < max 1 size then 0 else 5 := by
  unfold Md.sendE
  rw [mdOf_full]
  show (if (none : Option (List Int)).isSome = true then (90 : Int) else _) = _
  by_cases h : p.n < max 1 size
  · rw [decide_eq_true h, if_pos h]; rfl
  · rw [decide_eq_false h, if_neg h]; rfl
theorem mdOf_recvE (size : Nat) (p : Wk) : (mdOf size p).recvE = if 0 < p.n then 0 else 6 := by
  unfold Md.recvE mdOf Wk.n
  simp only [List.length_map, List.length_drop]
  by_cases h : 0 < p.S.length - p.R.length
  · rw [if_pos h, if_neg (by omega)]
  · rw [if_neg h, if_pos (by omega)]
theorem drop_one (l : List Nat) (n : Nat) : (l.drop n).tail = l.drop (n + 1) := by simp
theorem mdOf_send (size : Nat) (p : Wk) (i : Nat) (h : p.R.length ≤ p.S.length) (hn : p.n ≤ max 1 size) : (mdOf size p).send (one1 i) = mdOf size (p.step size i true) := by
  unfold Md.send
  rw [mdOf_sendE]
  unfold Wk.step
  simp only [if_true]
  by_cases hl : p.n < max 1 size
  · rw [if_pos hl, if_pos rfl, if_pos hl]
    unfold Wk.n at hl
    unfold mdOf Md.due
    simp only [List.length_append, List.length_singleton, Md.mk.injEq, true_and, and_true]
    refine ⟨?_, ?_⟩
    · rw [List.drop_append_of_le_length h, List.map_append]; rfl
    · by_cases h0 : size = 0
      · subst h0; simp
      · rw [if_neg h0, if_neg h0]
        by_cases hd : size ≤ p.S.length
        · rw [if_pos (by simp; omega), ← List.map_tail, drop_one, show p.S.length - size + 1 = p.S.length + 1 - size by omega]
        · rw [if_neg (by simp; omega), show p.S.length - size = 0 by omega, show p.S.length + 1 - size = 0 by omega]
  · rw [if_neg hl, if_neg (by decide), if_neg hl]
theorem mdOf_recv (size : Nat) (p : Wk) (i : Nat) (h : p.R.length ≤ p.S.length) (hn : p.n ≤ max 1 size) : (mdOf size p).recv (one1 i) = mdOf size (p.step size i false) := by
  unfold Md.recv
  rw [mdOf_recvE]
  unfold Wk.step
  simp only [Bool.false_eq_true, if_false]
  by_cases hl : 0 < p.n
  · rw [if_pos hl, if_pos rfl, if_pos hl]
    unfold Wk.n at hl hn
    unfold mdOf
    simp only [List.length_append, List.length_singleton, Md.mk.injEq, true_and, and_true]
    refine ⟨?_, ?_⟩
    · rw [← List.map_tail, drop_one]
    · by_cases h0 : size = 0
      · subst h0; simp
      · rw [if_neg h0, if_neg h0, if_neg h0, List.drop_append_of_le_length (by omega), List.map_append]; rfl
  · rw [if_neg hl, if_neg (by decide), if_neg hl]
theorem getD_one1 (l : List Nat) (n : Nat) (h : n < l.length) : ((l.drop n).map one1).headD [] = one1 (l.getD n 0) := by
  rw [List.drop_eq_getElem_cons h]
  simp [List.getD, h]
/-- What the next send fetches. -/
theorem mdOf_sendF (size : Nat) (p : Wk) (h : p.R.length ≤ p.S.length) (hl : p.n < max 1 size) : (mdOf size p).sendF = if 0 < size ∧ size ≤ p.S.length then some (one1 (p.R.getD (p.S.length - size) 0)) else none := by
  unfold Md.sendF
  rw [mdOf_sendE, if_pos hl, if_pos rfl]
  unfold Wk.n at hl
  unfold mdOf Md.due
  by_cases hd : 0 < size ∧ size ≤ p.S.length
  · rw [if_pos (by simp; omega), if_pos hd]
    simp only
    rw [if_neg (by omega), getD_one1 _ _ (by omega)]
  · rw [if_neg (by simp; omega), if_neg hd]
theorem mdOf_recvF (size : Nat) (p : Wk) (hl : 0 < p.n) : (mdOf size p).recvF = some (one1 (p.S.getD p.R.length 0)) := by
  unfold Md.recvF
  rw [mdOf_recvE, if_pos hl, if_pos rfl]
  unfold Wk.n at hl
  unfold mdOf
  simp only
  rw [getD_one1 _ _ (by omega)]
theorem mdOf_kept (size : Nat) (p : Wk) (h : p.R.length ≤ p.S.length) (hn : p.n ≤ max 1 size) : (mdOf size p).kept.length ≤ 2 * size + 2 := by
  unfold Wk.n at hn
  unfold Md.kept mdOf
  simp only [List.length_append, List.length_map, List.length_drop, Option.toList, List.length_nil, Nat.add_zero]
  split
  · simp; omega
  · rw [List.length_map, List.length_drop]; omega

end Go.Proofs.Ytlkfhobacgnckaa

