
/-
  staithelaw22.ref: a log as the reference has it.
-/
import Derived.Test.YtpmkfhfojmlalaaQryI
namespace Go.Proofs.Ytpmkfhfojmlalaa
open Go.RowKit
set_option linter.unusedVariables false
set_option linter.unusedSimpArgs false
set_option maxRecDepth 100000

/-- All blocks of this element type are as they were. -/
def KeepT (e : TypeId) (w w' : World) : Prop := ∀ (i : Nat) (cur : Array Value) (fz : Nat × Nat), w.heap[i]? = some (Obj.cells cur e fz) → w'.heap[i]? = w.heap[i]?
theorem KeepT.trans {e : TypeId} {a b c : World} (h : KeepT e a b) (k : KeepT e b c) : KeepT e a c := fun i cur fz hi => by
  have h1 := h i cur fz hi
  rw [k i cur fz (h1.trans hi), h1]
theorem keepT_below {e : TypeId} {w w' : World} (h : Below w.heap.size w w') : KeepT e w w' := fun i cur fz hi => h.block i (lt_of_heap hi)
theorem keepT_set {e e0 : TypeId} {w : World} {g o : Nat} {cur : Array Value} {fz : Nat × Nat} {v : Value} (hg : w.heap[g]? = some (.cells cur e0 fz)) (hne : e ≠ e0) : KeepT e w (w.setCell ⟨g, o, none⟩ v) := fun i cur' fz' hi => by
  refine heap_setCell_other _ _ _ _ ?_
  rintro rfl
  rw [hg] at hi
  have := Option.some.inj hi
  injection this with e1 e2
  exact hne e2.symm
theorem keepT_grown {e e0 : TypeId} {w w' : World} {base size n : Nat} {v : Value} {xs : List Value} (h : w.ownsRow base e0 size v n xs) (hg : w.grownBy w' v.ownBlock) (hne : e ≠ e0) : KeepT e w w' := fun i cur fz hi => by
  refine hg.block i (lt_of_heap hi) ?_
  intro he
  rcases h.2 with ⟨rfl, _⟩ | ⟨g, cap, cur', rfl, _, hgg, _⟩
  · cases he
  · cases he
    rw [hgg] at hi
    have := Option.some.inj hi
    injection this with e1 e2
    exact hne e2.symm
theorem ownsRow_keep {e : TypeId} {w w' : World} {base size n : Nat} {v : Value} {xs : List Value} (h : w.ownsRow base e size v n xs) (hk : KeepT e w w') : w'.ownsRow base e size v n xs := by
  refine ⟨h.1, ?_⟩
  rcases h.2 with h2 | ⟨g, cap, cur', rfl, hb, hgg, h3⟩
  · exact .inl h2
  · exact .inr ⟨g, cap, cur', rfl, hb, (hk g _ _ hgg).trans hgg, h3⟩
theorem owns_slice {w : World} {base size n : Nat} {e : TypeId} {v : Value} {xs : List Value} (h : w.ownsRow base e size v n xs) : ∃ ao cap, v = .slice ao n cap := by
  rcases h.2 with ⟨rfl, rfl⟩ | ⟨g, cap, _, rfl, _⟩
  · exact ⟨_, _, rfl⟩
  · exact ⟨_, _, rfl⟩
theorem range_lit (w : World) (cs : List Value) (t : TypeId) (j : Nat) (u : Value) (h : cs[j]? = some u) : (w.alloc (.cells cs.toArray t)).cell? (Addr.add ⟨w.heap.size, 0, none⟩ j) = some u := by
  rw [Addr.add_mid]
  simp only [World.cell?, heap_alloc_new, Nat.zero_add]
  simpa using h

theorem sinfo : (Try.prog.info? 63).map (fun i => (i.zero, i.size, i.bytes)) = some (some (.agg #[.int .i64 0, .int .i64 0, .slice none 0 0]), 3, 40) := by kernel_rfl
theorem recinfo : (Try.prog.info? 70).map (fun i => (i.zero, i.size, i.bytes)) = some (some (default : Rec).val, 6, 48) := by kernel_rfl

/-- Stamps of the reference as cells. -/
def r3 (l : List (Int × Int × Value)) : List Value := l.flatMap fun p => [.int .i64 p.1, .int .i64 p.2.1, p.2.2]
theorem r3_append (l m : List (Int × Int × Value)) : r3 (l ++ m) = r3 l ++ r3 m := by simp [r3]
theorem r3_at : ∀ (l : List (Int × Int × Value)) (j : Nat) (p : Int × Int × Value), l[j]? = some p → (r3 l)[j * 3]? = some (.int .i64 p.1) ∧ (r3 l)[j * 3 + 1]? = some (.int .i64 p.2.1) ∧ (r3 l)[j * 3 + 2]? = some p.2.2
  | [], j, p, h => by simp at h
  | q :: l, 0, p, h => by simp at h; subst h; exact ⟨rfl, rfl, rfl⟩
  | q :: l, j + 1, p, h => by
    have := r3_at l j p (by simpa using h)
    simp only [r3, List.flatMap_cons] at this ⊢
    rw [show (j + 1) * 3 = j * 3 + 3 by omega]
    exact this
/-- Records as cells. -/
def r6 (l : List Rec) : List Value := l.flatMap fun r => [.int .i64 r.g, .int .i64 r.tid, .int .i64 r.frm, .bool r.gone, .int .i64 r.till, .int .i64 r.cut]
theorem r6_append (l m : List Rec) : r6 (l ++ m) = r6 l ++ r6 m := by simp [r6]
theorem r6_at : ∀ (l : List Rec) (j : Nat) (r : Rec), l[j]? = some r → ∀ c v, [Value.int .i64 r.g, .int .i64 r.tid, .int .i64 r.frm, .bool r.gone, .int .i64 r.till, .int .i64 r.cut][c]? = some v → (r6 l)[j * 6 + c]? = some v
  | [], j, r, h => by simp at h
  | q :: l, 0, r, h => by
    simp at h; subst h
    intro c v hc
    rw [Nat.zero_mul, Nat.zero_add]
    simp only [r6, List.flatMap_cons]
    rw [List.getElem?_append_left (by
      have := (List.getElem?_eq_some_iff.1 hc).1
      simpa using this)]
    exact hc
  | q :: l, j + 1, r, h => by
    intro c v hc
    have := r6_at l j r (by simpa using h) c v hc
    simp only [r6, List.flatMap_cons] at this ⊢
    rw [show (j + 1) * 6 + c = (j * 6 + c) + 6 by omega]
    exact this

/-- What the first loop has come to. -/
structure S1At (w : World) (ve vs vr vS : Value) (l : List (Int × Int × Value)) (wr : World) : Prop where
  box : wr.heap[w.heap.size]? = some (Obj.cells #[ve, vs, vr] 26 (0, 0))
  res : wr.heap[w.heap.size + 1]? = some (Obj.cells #[.slice none 0 0, .slice none 0 0, .slice none 0 0] 37 (0, 0))
  out : wr.heap[w.heap.size + 1 + 1]? = some (Obj.cells #[ve, vS, .slice none 0 0] 37 (0, 0))
  row : wr.ownsRow w.heap.size 63 3 vS l.length (r3 l)
  bel : Below w.heap.size w wr
theorem S1At.below {w : World} {ve vs vr vS : Value} {l : List (Int × Int × Value)} {wr w' : World} (h : S1At w ve vs vr vS l wr) (hB : Below wr.heap.size wr w') : S1At w ve vs vr vS l w' :=
  ⟨by rw [hB.block _ (lt_of_heap h.box)]; exact h.box, by rw [hB.block _ (lt_of_heap h.res)]; exact h.res, by rw [hB.block _ (lt_of_heap h.out)]; exact h.out, ownsRow_keep h.row (keepT_below hB), below_trans h.bel hB h.bel.size⟩

theorem three_set1 {w : World} {g : Nat} {t : TypeId} {x y z u : Value} (h : w.heap[g]? = some (Obj.cells #[x, y, z] t (0, 0))) : (w.setCell ⟨g, 1, none⟩ u).heap[g]? = some (Obj.cells #[x, u, z] t (0, 0)) := by
  rw [heap_setCell_same w g 1 _ _ _ h]; rfl
theorem three_set2 {w : World} {g : Nat} {t : TypeId} {x y z u : Value} (h : w.heap[g]? = some (Obj.cells #[x, y, z] t (0, 0))) : (w.setCell ⟨g, 2, none⟩ u).heap[g]? = some (Obj.cells #[x, y, u] t (0, 0)) := by
  rw [heap_setCell_same w g 2 _ _ _ h]; rfl
theorem three_set0 {w : World} {g : Nat} {t : TypeId} {x y z u : Value} (h : w.heap[g]? = some (Obj.cells #[x, y, z] t (0, 0))) : (w.setCell ⟨g, 0, none⟩ u).heap[g]? = some (Obj.cells #[u, y, z] t (0, 0)) := by
  rw [heap_setCell_same w g 0 _ _ _ h]; rfl
theorem three_cells {w : World} {p : Nat} {t : TypeId} {a0 a1 a2 : Value} (h : w.heap[p]? = some (Obj.cells #[a0, a1, a2] t (0, 0))) :
    w.cell? ⟨p, 0, none⟩ = some a0 ∧ w.cell? ⟨p, 1, none⟩ = some a1 ∧ w.cell? ⟨p, 2, none⟩ = some a2 ∧ ∀ k, w.frozen? ⟨p, k, none⟩ = false := by
  refine ⟨?_, ?_, ?_, fun k => by simp [World.frozen?, h]⟩ <;> (simp only [World.cell?, h]; rfl)

theorem s1_next {w X w7 : World} {ve vs vr vS vS' : Value} {l : List (Int × Int × Value)} {a b : Int} {u : Value} {o : Obj} (A : S1At w ve vs vr vS l X)
    (h7 : w7.ownsRow w.heap.size 63 3 vS' (l.length + 1) (r3 l ++ [.int .i64 a, .int .i64 b, u])) (hg : (X.alloc o).grownBy w7 vS.ownBlock) :
    w7.heap[w.heap.size + 1 + 1]? = some (Obj.cells #[ve, vS, .slice none 0 0] 37 (0, 0)) ∧ S1At w ve vs vr vS' (l ++ [(a, b, u)]) (w7.setCell ⟨w.heap.size + 1 + 1, 1, none⟩ vS') := by
  have hB : Below X.heap.size X (X.alloc o) := (Below.refl _ _).alloc (Nat.le_refl _) _
  have A2 := A.below hB
  have kp : ∀ e, e ≠ 63 → KeepT e X w7 := fun e he => (keepT_below hB).trans (keepT_grown A2.row hg he)
  have ho := (kp _ (by decide) _ _ _ A.out).trans A.out
  refine ⟨ho, ?_, ?_, three_set1 ho, ?_, ?_⟩
  · rw [heap_setCell_other _ _ _ _ (by show w.heap.size ≠ w.heap.size + 1 + 1; omega)]; exact (kp _ (by decide) _ _ _ A.box).trans A.box
  · rw [heap_setCell_other _ _ _ _ (by show w.heap.size + 1 ≠ w.heap.size + 1 + 1; omega)]; exact (kp _ (by decide) _ _ _ A.res).trans A.res
  · have := ownsRow_keep h7 (keepT_set (o := 1) (v := vS') ho (by decide))
    rw [List.length_append, r3_append]
    exact this
  · exact (A2.bel.grown hg A2.bel.size (fun k hk => (A2.row.lt k hk).1)).setCell (by show w.heap.size ≤ w.heap.size + 1 + 1; omega) _

/-- What the second loop has come to. -/
structure S2At (w : World) (ve vs vr vS vR : Value) (l : List (Int × Int × Value)) (rs : List Rec) (wr : World) : Prop where
  box : wr.heap[w.heap.size]? = some (Obj.cells #[ve, vs, vr] 26 (0, 0))
  res : wr.heap[w.heap.size + 1]? = some (Obj.cells #[.slice none 0 0, .slice none 0 0, .slice none 0 0] 37 (0, 0))
  out : wr.heap[w.heap.size + 1 + 1]? = some (Obj.cells #[ve, vS, vR] 37 (0, 0))
  row : wr.ownsRow w.heap.size 63 3 vS l.length (r3 l)
  recs : wr.ownsRow w.heap.size 70 6 vR rs.length (r6 rs)
  bel : Below w.heap.size w wr
theorem S2At.below {w : World} {ve vs vr vS vR : Value} {l : List (Int × Int × Value)} {rs : List Rec} {wr w' : World} (h : S2At w ve vs vr vS vR l rs wr) (hB : Below wr.heap.size wr w') : S2At w ve vs vr vS vR l rs w' :=
  ⟨by rw [hB.block _ (lt_of_heap h.box)]; exact h.box, by rw [hB.block _ (lt_of_heap h.res)]; exact h.res, by rw [hB.block _ (lt_of_heap h.out)]; exact h.out, ownsRow_keep h.row (keepT_below hB), ownsRow_keep h.recs (keepT_below hB), below_trans h.bel hB h.bel.size⟩
theorem s2_next {w X w7 : World} {ve vs vr vS vR vR' : Value} {l : List (Int × Int × Value)} {rs : List Rec} {r : Rec} {o : Obj} (A : S2At w ve vs vr vS vR l rs X)
    (h7 : w7.ownsRow w.heap.size 70 6 vR' (rs.length + 1) (r6 rs ++ [.int .i64 r.g, .int .i64 r.tid, .int .i64 r.frm, .bool r.gone, .int .i64 r.till, .int .i64 r.cut])) (hg : (X.alloc o).grownBy w7 vR.ownBlock) :
    w7.heap[w.heap.size + 1 + 1]? = some (Obj.cells #[ve, vS, vR] 37 (0, 0)) ∧ S2At w ve vs vr vS vR' l (rs ++ [r]) (w7.setCell ⟨w.heap.size + 1 + 1, 2, none⟩ vR') := by
  have hB : Below X.heap.size X (X.alloc o) := (Below.refl _ _).alloc (Nat.le_refl _) _
  have A2 := A.below hB
  have kp : ∀ e, e ≠ 70 → KeepT e X w7 := fun e he => (keepT_below hB).trans (keepT_grown A2.recs hg he)
  have ho := (kp _ (by decide) _ _ _ A.out).trans A.out
  refine ⟨ho, ?_, ?_, three_set2 ho, ?_, ?_, ?_⟩
  · rw [heap_setCell_other _ _ _ _ (by show w.heap.size ≠ w.heap.size + 1 + 1; omega)]; exact (kp _ (by decide) _ _ _ A.box).trans A.box
  · rw [heap_setCell_other _ _ _ _ (by show w.heap.size + 1 ≠ w.heap.size + 1 + 1; omega)]; exact (kp _ (by decide) _ _ _ A.res).trans A.res
  · exact ownsRow_keep (ownsRow_keep A.row (kp _ (by decide))) (keepT_set (o := 2) (v := vR') ho (by decide))
  · have := ownsRow_keep h7 (keepT_set (o := 2) (v := vR') ho (by decide))
    rw [List.length_append, r6_append]
    exact this
  · exact (A2.bel.grown hg A2.bel.size (fun k hk => (A2.recs.lt k hk).1)).setCell (by show w.heap.size ≤ w.heap.size + 1 + 1; omega) _

end Go.Proofs.Ytpmkfhfojmlalaa

