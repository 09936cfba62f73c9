
/-
  Blocks of unlike element types: what turns in the one leaves the other (for programs without clocks).
-/
import Derived.Test.YtpefjcmaggimhaaGr
import Derived.Test.YtpefjcmaggimhaaBldS
namespace Go.Proofs.Ytpefjcmaggimhaa
open Go.RowKit
set_option linter.unusedVariables false
set_option linter.unusedSimpArgs false
set_option maxRecDepth 100000

theorem lt_heapK {w : World} {b : Nat} {x : Obj} (h : w.heap[b]? = some x) : b < w.heap.size := by
  rcases Nat.lt_or_ge b w.heap.size with h' | h'
  · exact h'
  · simp [Array.getElem?_eq_none h'] at h
/-- All blocks of this element type are as they were. -/
def KeepT (e : TypeId) (w w' : World) : Prop := ∀ (i : Nat) (cur : Array Value) (fz : Nat × Nat), w.heap[i]? = some (Obj.cells cur e fz) → w'.heap[i]? = w.heap[i]?
theorem KeepT.refl (e : TypeId) (w : World) : KeepT e w w := fun _ _ _ _ => rfl
theorem KeepT.trans {e : TypeId} {a b c : World} (h : KeepT e a b) (k : KeepT e b c) : KeepT e a c := fun i cur fz hi => by
  have h1 := h i cur fz hi
  rw [k i cur fz (h1.trans hi), h1]
theorem keepT_below {e : TypeId} {w w' : World} (h : Below w.heap.size w w') : KeepT e w w' := fun i cur fz hi => h.block i (lt_heapK hi)
theorem keepT_set {e e0 : TypeId} {w : World} {g o : Nat} {cur : Array Value} {fz : Nat × Nat} {v : Value} (hg : w.heap[g]? = some (.cells cur e0 fz)) (hne : e ≠ e0) : KeepT e w (w.setCell ⟨g, o, none⟩ v) := fun i cur' fz' hi => by
  refine heap_setCell_other _ _ _ _ ?_
  rintro rfl
  rw [hg] at hi
  have := Option.some.inj hi
  injection this with e1 e2
  exact hne e2.symm
theorem keepT_gr {e e0 : TypeId} {w w' : World} {g : Nat} {cur : Array Value} {fz : Nat × Nat} (hg : w.heap[g]? = some (.cells cur e0 fz)) (h : w.grownBy w' (some g)) (hne : e ≠ e0) : KeepT e w w' := fun i cur' fz' hi => by
  refine h.block i (lt_heapK hi) ?_
  intro he
  cases he
  rw [hg] at hi
  have := Option.some.inj hi
  injection this with e1 e2
  exact hne e2.symm
theorem keepT_grown {e e0 : TypeId} {w w' : World} {base size n : Nat} {v : Value} {xs : List Value} (h : w.ownsRow base e0 size v n xs) (hg : w.grownBy w' v.ownBlock) (hne : e ≠ e0) : KeepT e w w' := fun i cur fz hi => by
  refine hg.block i (lt_heapK hi) ?_
  intro he
  rcases h.2 with ⟨rfl, _⟩ | ⟨g, cap, cur', rfl, _, hgg, _⟩
  · cases he
  · cases he
    rw [hgg] at hi
    have := Option.some.inj hi
    injection this with e1 e2
    exact hne e2.symm
theorem ownsRow_keep {e : TypeId} {w w' : World} {base size n : Nat} {v : Value} {xs : List Value} (h : w.ownsRow base e size v n xs) (hk : KeepT e w w') : w'.ownsRow base e size v n xs := by
  refine ⟨h.1, ?_⟩
  rcases h.2 with h2 | ⟨g, cap, cur', rfl, hb, hgg, h3⟩
  · exact .inl h2
  · exact .inr ⟨g, cap, cur', rfl, hb, (hk g _ _ hgg).trans hgg, h3⟩

/-! ### A builder's writes keep all but builders and bytes -/
def BKeep (w w' : World) : Prop := ∀ e, e ≠ 54 → e ≠ 5 → KeepT e w w'
theorem BKeep.refl (w : World) : BKeep w w := fun e _ _ => KeepT.refl e w
theorem BKeep.trans {a b c : World} (h : BKeep a b) (k : BKeep b c) : BKeep a c := fun e h1 h2 => (h e h1 h2).trans (k e h1 h2)
theorem bkeep_below {w w' : World} (h : Below w.heap.size w w') : BKeep w w' := fun e _ _ => keepT_below h
theorem bcheck_keep (B b : Nat) (bs : List Value) (w : World) (h : Lib.IsBuilder 54 5 B b bs w) :
    Calls Try.prog 53 #[.pointer (some ⟨b, 0, none⟩)] w fun e w' => e = .returned (.tuple #[]) ∧ Lib.BuilderAt 54 5 B b (.pointer (some ⟨b, 0, none⟩)) bs w' ∧ Below B w w' ∧ BKeep w w' := by
  rcases h with h | h
  · refine (check_fresh b w h.cell0 h.shape h.frozen0).mono ?_
    rintro e w' ⟨rfl, rfl⟩
    have hh := h
    obtain ⟨_, v, hb, _⟩ := hh
    exact ⟨rfl, h.used _, (Below.refl B w).setCell (p := ⟨b, 0, none⟩) h.1 _, fun e h1 _ => keepT_set hb h1⟩
  · refine (check_used b w h.cell0).mono ?_
    rintro e w' ⟨rfl, rfl⟩
    exact ⟨rfl, h, Below.refl B _, BKeep.refl _⟩

theorem write_keep (B b : Nat) (bs : List Value) (s : ByteArray) (w : World) (h : Lib.IsBuilder 54 5 B b bs w) (hlen : bs.length + s.size ≤ 1000000000) (hBw : B ≤ w.heap.size) :
    Calls Try.prog 23 #[.pointer (some ⟨b, 0, none⟩), .string s] w fun e w' => e = .returned (.tuple #[.int .i64 s.size, .nilIface]) ∧ Lib.IsBuilder 54 5 B b (bs ++ Lib.strCells s) w' ∧ Below B w w' ∧ BKeep w w' := by
  obtain ⟨i0, hi, hz0, hz1, hz2⟩ := info_parts info_byte
  go_enter Try.func23, Try.ntmps23
  go_wp2_with fail
  refine (bcheck_keep B b bs _ h).mono ?_
  rintro e w1 ⟨rfl, h1, hb1, hk1⟩
  have K1 := Lib.hid hk1
  clear hk1
  obtain ⟨hB, v, hbk, hown, hne⟩ := h1
  have c0 : w1.cell? ⟨b, 0, none⟩ = some (.pointer (some ⟨b, 0, none⟩)) := by rw [Lib.cell_of_heap hbk]; rfl
  have c1 : w1.cell? ⟨b, 1, none⟩ = some v := by rw [Lib.cell_of_heap hbk]; rfl
  go_wp2_with (at_builtin; refine Lib.wpList_append_own_string _ rfl _ _ 52 9 rfl B 5 i0 Try.underlying52 Try.underlying9 hi hz0 hz1 hz2 _ _ _ rfl hown s rfl ?c3 ?c4 ?c5 ?_)
  case c3 => unfold maxLen; omega
  case c4 => omega
  case c5 => have := hb1.size; omega
  intro v' w2 hown' hgrow _
  have hlt : b < w1.heap.size := by
    rcases Nat.lt_or_ge b w1.heap.size with h' | h'
    · exact h'
    · simp [Array.getElem?_eq_none h'] at hbk
  have hb2 : w2.heap[b]? = some (.cells #[.pointer (some ⟨b, 0, none⟩), v] 54 (0, 0)) := by
    rw [hgrow.block b hlt (fun e => hne e.symm)]
    exact hbk
  have d0 : w2.cell? ⟨b, 0, none⟩ = some (.pointer (some ⟨b, 0, none⟩)) := by rw [Lib.cell_of_heap hb2]; rfl
  have d1 : w2.cell? ⟨b, 1, none⟩ = some v := by rw [Lib.cell_of_heap hb2]; rfl
  have f1 : w2.frozen? ⟨b, 1, none⟩ = false := Lib.frozen_of_heap hb2 1
  obtain ⟨ao, n', cap, rfl⟩ : ∃ ao n' cap, v' = .slice ao n' cap := by
    rcases hown'.2 with ⟨hv, _⟩ | ⟨g, cap, cur, hv, _⟩
    · exact ⟨_, _, _, hv⟩
    · exact ⟨_, _, _, hv⟩
  go_wp2
  go_ret2
  refine ⟨rfl, .inr ?_, ?_, ?_⟩
  · exact Lib.BuilderAt.put (T := 54) (e := 5) hB hb2 (bs' := bs ++ Lib.strCells s) (by simpa [Lib.strCells_length] using hown') (by decide)
  · exact (hb1.grown hgrow (by have := hb1.size; omega) (fun k hk => (hown.lt k hk).1)).setCell (p := ⟨b, 1, none⟩) hB _
  · exact fun e h1 h2 => ((K1.out e h1 h2).trans (keepT_grown hown hgrow h2)).trans (keepT_set hb2 h1)
theorem writek_bs (B b : Nat) (xs x : List UInt8) (w : World) (h : Lib.IsBuilder 54 5 B b (Lib.byteCells xs) w) (hlen : xs.length + x.length ≤ 1000000000) (hBw : B ≤ w.heap.size) :
    Calls Try.prog 23 #[.pointer (some ⟨b, 0, none⟩), bs x] w fun e w' => (∃ r, e = .returned r) ∧ Lib.IsBuilder 54 5 B b (Lib.byteCells (xs ++ x)) w' ∧ Below B w w' ∧ BKeep w w' := by
  refine (write_keep B b (Lib.byteCells xs) ⟨x.toArray⟩ w h (by rw [Lib.byteCells_length, size_bs]; exact hlen) hBw).mono ?_
  rintro e w' ⟨rfl, h1, h2, h3⟩
  refine ⟨⟨_, rfl⟩, ?_, h2, h3⟩
  have : Lib.byteCells (xs ++ x) = Lib.byteCells xs ++ Lib.strCells ⟨x.toArray⟩ := by simp [Lib.byteCells, Lib.strCells]
  rw [this]; exact h1
end Go.Proofs.Ytpefjcmaggimhaa

