
/-
  Package slots: New, due, fetch; appends of pointers.
-/
import Derived.Test.YtlkfhobacgnckaaSlB
import Derived.Deep.RegionHeld3
namespace Go.Proofs.Ytlkfhobacgnckaa
open Go.RowKit
set_option linter.unusedVariables false
set_option linter.unusedSimpArgs false
set_option maxRecDepth 100000

theorem wpList_append_ptrs {ops : Array Oper} {rest : List Oper} {o : Oper} {a : Act} {w : World} {Q : Exit → Act → World → Prop} (hgd : o.guard = none) (s x : Operand)
    (ho : o.op = .call { callee := .builtin .append, args := #[s, x], argTypes := #[34, 34] }) (base base' : Nat) (v u : Value) (n m : Nat) (bs cs : List Nat) (hs : a.eval s = v) (hx : a.eval x = u)
    (hown : w.ownsRow base 28 1 v n (ptrs bs)) (hu : w.ownsRow base' 28 1 u m (ptrs cs)) (hnm : n + m ≤ 100000) (hbase : base ≤ w.heap.size)
    (h : ∀ v' w', w'.ownsRow base 28 1 v' (n + m) (ptrs (bs ++ cs)) → w.grownBy w' v.ownBlock → wpList Try.prog ops Q rest (a.put o.dst v') w') : wpList Try.prog ops Q (o :: rest) a w := by
  obtain ⟨pi, hpi, hp0, hp1, hp2⟩ := info_parts pinfo
  have hcl : (ptrs cs).length = m := by have := hu.1; omega
  rcases hu.2 with ⟨rfl, rfl⟩ | ⟨g, cap, cur, rfl, hbg, hg, hle, _, hcs, ht⟩
  · obtain rfl : cs = [] := by cases cs with
      | nil => rfl
      | cons _ _ => simp [ptrs] at hcl
    refine wpList_append_own_none hgd s x 34 ho base 28 pi 1 Try.underlying34 hpi v n (ptrs bs) hs hown hx (h _ _ (by simpa using hown) ?_)
    exact ⟨rfl, rfl, rfl, Nat.le_refl _, fun _ _ _ => rfl⟩
  · refine wpList_append_own _ hgd s x 34 ho base 28 pi (.pointer none) 1 8 Try.underlying34 hpi hp0 hp1 hp2 rfl (by decide) v n (ptrs bs) hs hown ⟨g, 0, none⟩ m cap (ptrs cs) hx (by omega) ?_ ?_ (by unfold maxLen; omega) (by omega) hbase ?_
    · intro j z hj
      rw [Addr.add_mid]
      simp only [World.cell?, hg, Nat.zero_add]
      rw [← Array.getElem?_toList, ← hj, ← ht]
      have hjl : j < m := by
        have := (List.getElem?_eq_some_iff.1 hj).1
        omega
      rw [List.getElem?_take_of_lt (by omega)]
      rfl
    · intro z hz
      simp only [ptrs, List.mem_map] at hz
      obtain ⟨b, _, rfl⟩ := hz
      rfl
    · intro v' w' h1 h2 h3
      exact h v' w' (by simpa [ptrs] using h1) h2

/-- A slice value that reads as these pointers. -/
def PSrc (w : World) (v : Value) (bs : List Nat) : Prop :=
  ∃ ao cap, v = .slice ao bs.length cap ∧ (ao = none → bs.length = 0 ∧ cap = 0) ∧ (0 < bs.length → ∃ g z, ao = some ⟨g, z, none⟩ ∧ ∀ j, j < bs.length → w.cell? ⟨g, z + j, none⟩ = some (.pointer (some ⟨bs.getD j 0, 0, none⟩)))
theorem PSrc.below {w w' : World} {v : Value} {l : List Nat} (h : PSrc w v l) {n : Nat} (hn : w.heap.size ≤ n) (hB : Below n w w') : PSrc w' v l := by
  obtain ⟨ao, cap, rfl, h1, h2⟩ := h
  refine ⟨ao, cap, rfl, h1, fun hp => ?_⟩
  obtain ⟨g, z, rfl, h3⟩ := h2 hp
  exact ⟨g, z, rfl, fun j hj => by rw [hB.cell (p := ⟨g, z + j, none⟩) (Nat.lt_of_lt_of_le (block_lt_of_cell (h3 j hj)) hn)]; exact h3 j hj⟩
theorem PSrc.of_owns {w : World} {base : Nat} {v : Value} {bs : List Nat} (h : w.ownsRow base 28 1 v bs.length (ptrs bs)) : PSrc w v bs := by
  rcases h.2 with ⟨rfl, h0⟩ | ⟨g, cap, cur, rfl, _, hg, _, _, hcs, ht⟩
  · exact ⟨none, 0, by rw [h0], fun _ => ⟨h0, rfl⟩, fun hp => by omega⟩
  · refine ⟨_, cap, rfl, (fun e => nomatch e), fun hp => ⟨g, 0, rfl, fun j hj => ?_⟩⟩
    have h1 : (cur.toList.take (bs.length * 1))[j]? = (ptrs bs)[j]? := by rw [ht]
    rw [Nat.mul_one, List.getElem?_take_of_lt hj] at h1
    simp only [World.cell?, hg, Nat.zero_add]
    rw [← Array.getElem?_toList, h1]
    simp [ptrs, hj, List.getD]

theorem ptrs1 (l : List Nat) : ∀ u ∈ ptrs l, u.oneCell' = true := by
  intro z hz
  simp only [ptrs, List.mem_map] at hz
  obtain ⟨b, _, rfl⟩ := hz
  rfl
theorem getElem?_ptrs (l : List Nat) (i : Nat) (h : i < l.length) : (ptrs l)[i]? = some (.pointer (some ⟨l.getD i 0, 0, none⟩)) := by
  simp [ptrs, h]

/-- append([]*Clock{}, l...). -/
theorem wpList_clone_ptrs {ops : Array Oper} {rest : List Oper} {o : Oper} {a : Act} {Q : Exit → Act → World → Prop} (w W : World) (hgd : o.guard = none) (s x : Operand)
    (ho : o.op = .call { callee := .builtin .append, args := #[s, x], argTypes := #[34, 34] })
    (hW : W = w.alloc (.cells #[] 28)) (hs : a.eval s = .slice (some ⟨w.heap.size, 0, none⟩) 0 0)
    (v : Value) (l : List Nat) (hx : a.eval x = v) (hv : PSrc w v l) (hn : l.length ≤ 100000)
    (h : ∀ g cap' w', w.heap.size ≤ g → l.length ≤ cap' → Below w.heap.size w w' → w'.ownsRow w.heap.size 28 1 (.slice (some ⟨g, 0, none⟩) l.length cap') l.length (ptrs l) → wpList Try.prog ops Q rest (a.put o.dst (.slice (some ⟨g, 0, none⟩) l.length cap')) w') :
    wpList Try.prog ops Q (o :: rest) a W := by
  subst hW
  obtain ⟨i0, hi, hz0, hz1, hz2⟩ := info_parts pinfo
  obtain ⟨ao, cap, rfl, hno, hc⟩ := hv
  have hown : (w.alloc (.cells #[] 28)).ownsRow w.heap.size 28 1 (.slice (some ⟨w.heap.size, 0, none⟩) 0 0) 0 [] :=
    World.ownsRow_lit w #[] 0 (Nat.le_refl _) (Nat.zero_le _) rfl
  cases ao with
  | none =>
    obtain ⟨h0, rfl⟩ := hno rfl
    obtain rfl := List.eq_nil_of_length_eq_zero h0
    exact wpList_append_own_none hgd s x 34 ho w.heap.size 28 i0 1 Try.underlying34 hi _ 0 [] hs hown hx (h _ _ _ (Nat.le_refl _) (Nat.le_refl _) ((Below.refl _ _).alloc (Nat.le_refl _) _) hown)
  | some ad =>
    refine wpList_append_own _ hgd s x 34 ho w.heap.size 28 i0 (.pointer none) 1 8 Try.underlying34 hi hz0 hz1 hz2 rfl (by decide) _ 0 [] hs hown ad l.length cap (ptrs l) hx (by rw [length_ptrs]; omega) ?_ (ptrs1 l) (by unfold maxLen; omega) (by omega) (by simp) ?_
    · intro j u hj
      have hjl : j < l.length := by
        have := (List.getElem?_eq_some_iff.1 hj).1
        rwa [length_ptrs] at this
      obtain ⟨g, z, e, hcc⟩ := hc (by omega)
      cases e
      rw [getElem?_ptrs l j hjl] at hj
      have h1 := hcc j (by omega)
      have ha : (⟨g, z, none⟩ : Addr).add j = ⟨g, z + j, none⟩ := by unfold Addr.add; split <;> simp_all
      rw [ha, ((Below.refl w.heap.size w).alloc (Nat.le_refl _) _).cell (p := ⟨g, z + j, none⟩) (block_lt_of_cell h1), h1]
      exact hj
    · intro v' w' h1 h2 h3
      simp only [Nat.zero_add, List.nil_append] at h1
      have hB : Below w.heap.size w w' := ((Below.refl _ _).alloc (Nat.le_refl _) _).grown h2 (by simp) (fun k hk => (hown.lt k hk).1)
      have h1' := h1
      rcases h1.2 with ⟨rfl, _⟩ | ⟨g, cap', cur, rfl, hg, _, hcp, _⟩
      · exact absurd (h3.1 rfl).1 (by simp)
      · exact h g cap' w' hg hcp hB h1'

def NewPost (n : Int) (w : World) (r : Ending) (w' : World) : Prop :=
  ((0 ≤ n ∧ n ≤ 4) ∧ r = .returned (.tuple #[.pointer (some ⟨w.heap.size, 0, none⟩), .int .i64 0]) ∧ SlAt w.heap.size w.heap.size w' (fun _ => none) (.slice none 0 0) (.slice none 0 0) [] [] none (Md.new n.toNat) ∧ Below w.heap.size w w') ∨
  (¬ (0 ≤ n ∧ n ≤ 4) ∧ r = .returned (.tuple #[.pointer none, .int .i64 1]) ∧ w = w')
theorem sl_new (w : World) (n : Nat) (hn : n ≤ 4) : SlAt w.heap.size w.heap.size (w.alloc (.cells #[.int .i64 (n : Nat), .slice none 0 0, .slice none 0 0, .int .i64 0, .int .i64 0, .pointer none] 72)) (fun _ => none) (.slice none 0 0) (.slice none 0 0) [] [] none (Md.new n) :=
  ⟨heap_alloc_new w _, ⟨rfl, .inl ⟨rfl, rfl⟩⟩, ⟨rfl, .inl ⟨rfl, rfl⟩⟩, fun _ e => (nomatch e), Fam.none _ _, trivial, trivial, trivial, by simp, Nat.le_refl _, by rw [size_alloc]; omega⟩
theorem snew_any (n : Int) (w : World) : Calls Try.prog 8 #[.int .i64 n] w (NewPost n w) := by
  by_cases h0 : n < 0
  · go_enter Try.func8, Try.ntmps8
    go_wp2_with fail
    go_ret2
    exact .inr ⟨by omega, rfl, rfl⟩
  · by_cases h4 : 4 < n
    · go_enter Try.func8, Try.ntmps8
      go_wp2_with fail
      go_ret2
      exact .inr ⟨by omega, rfl, rfl⟩
    · obtain ⟨m, rfl⟩ := Int.eq_ofNat_of_zero_le (show 0 ≤ n by omega)
      have h4' : (m : Int) ≤ 4 := by omega
      clear h0 h4
      go_enter Try.func8, Try.ntmps8
      go_wp2_with fail
      go_ret2
      exact .inl ⟨by omega, rfl, by rw [Int.toNat_natCast]; exact sl_new w m (by omega), (Below.refl _ _).alloc (Nat.le_refl _) _⟩

end Go.Proofs.Ytlkfhobacgnckaa

