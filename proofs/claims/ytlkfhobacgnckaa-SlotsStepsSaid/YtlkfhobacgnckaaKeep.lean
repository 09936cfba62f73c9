
/-
  Blocks of unlike element types: what turns in the one leaves the other.
-/
import Derived.Test.YtlkfhobacgnckaaRefC
import Derived.Great.BuildSlice
namespace Go.Proofs.Ytlkfhobacgnckaa
open Go.RowKit
set_option linter.unusedVariables false
set_option linter.unusedSimpArgs false
set_option maxRecDepth 100000

/-- All blocks of this element type are as they were. -/
def KeepT (e : TypeId) (w w' : World) : Prop := ∀ (i : Nat) (cur : Array Value) (fz : Nat × Nat), w.heap[i]? = some (Obj.cells cur e fz) → w'.heap[i]? = w.heap[i]?

theorem KeepT.refl (e : TypeId) (w : World) : KeepT e w w := fun _ _ _ _ => rfl
theorem KeepT.trans {e : TypeId} {a b c : World} (h : KeepT e a b) (k : KeepT e b c) : KeepT e a c := fun i cur fz hi => by
  have h1 := h i cur fz hi
  rw [k i cur fz (h1.trans hi), h1]
theorem keepT_below {e : TypeId} {w w' : World} (h : Below w.heap.size w w') : KeepT e w w' := fun i cur fz hi => h.block i (lt_of_heap hi)
theorem keepT_set {e e0 : TypeId} {w : World} {g o : Nat} {cur : Array Value} {fz : Nat × Nat} {v : Value} (hg : w.heap[g]? = some (.cells cur e0 fz)) (hne : e ≠ e0) : KeepT e w (w.setCell ⟨g, o, none⟩ v) := fun i cur' fz' hi => by
  refine heap_setCell_other _ _ _ _ ?_
  rintro rfl
  rw [hg] at hi
  have := Option.some.inj hi
  injection this with e1 e2
  exact hne e2.symm
theorem keepT_turned {e : TypeId} {S : Nat → Prop} {w w' : World} (h : Turned S w w') (hS : ∀ (i : Nat) (cur : Array Value) (fz : Nat × Nat), w.heap[i]? = some (Obj.cells cur e fz) → ¬ S i) : KeepT e w w' := fun i cur fz hi => h.block i (lt_of_heap hi) (hS i cur fz hi)
theorem keepT_grown {e e0 : TypeId} {w w' : World} {base size n : Nat} {v : Value} {xs : List Value} (h : w.ownsRow base e0 size v n xs) (hg : w.grownBy w' v.ownBlock) (hne : e ≠ e0) : KeepT e w w' := fun i cur fz hi => by
  refine hg.block i (lt_of_heap hi) ?_
  intro he
  rcases h.2 with ⟨rfl, _⟩ | ⟨g, cap, cur', rfl, _, hgg, _⟩
  · cases he
  · cases he
    rw [hgg] at hi
    have := Option.some.inj hi
    injection this with e1 e2
    exact hne e2.symm
theorem ownsRow_keep {e : TypeId} {w w' : World} {base size n : Nat} {v : Value} {xs : List Value} (h : w.ownsRow base e size v n xs) (hk : KeepT e w w') : w'.ownsRow base e size v n xs := by
  refine ⟨h.1, ?_⟩
  rcases h.2 with h2 | ⟨g, cap, cur', rfl, hb, hgg, h3⟩
  · exact .inl h2
  · exact .inr ⟨g, cap, cur', rfl, hb, (hk g _ _ hgg).trans hgg, h3⟩
theorem ckAt_keep {w w' : World} {b : Nat} {k : Ck} (h : CkAt w b k) (h1 : KeepT 75 w w') (h2 : KeepT 3 w w') : CkAt w' b k := by
  obtain ⟨ao, cap, hb, hc, ho, hx⟩ := h
  refine ⟨ao, cap, (h1 b _ _ hb).trans hb, hc, ho, fun hp => ?_⟩
  obtain ⟨h3, cur, h4, h5⟩ := hx hp
  exact ⟨h3, cur, (h2 _ _ _ h4).trans h4, h5⟩
theorem Fam.keep {B : Nat} {w w' : World} {F : Nat → Option Ck} (h : Fam B w F) (h1 : KeepT 75 w w') (h2 : KeepT 3 w w') : Fam B w' F :=
  ⟨fun b k hF => ckAt_keep (h.here b k hF) h1 h2, h.apart, h.low⟩
/-- A write to a clock keeps all that are neither clocks nor numbers. -/
theorem keepT_wrote {e : TypeId} {w w' : World} {b : Nat} {k k' : Ck} (h : CkAt w b k) (hw : Wrote w b k k' w') (h1 : e ≠ 75) (h2 : e ≠ 3) : KeepT e w w' := by
  refine keepT_turned hw.2.1 fun i cur fz hi => ?_
  obtain ⟨ao, cap, hb, hc, ho, hx⟩ := h
  rintro (rfl | ⟨_, hp, rfl⟩)
  · rw [hb] at hi
    have := Option.some.inj hi
    injection this with e1 e2
    exact h1 e2.symm
  · obtain ⟨_, cur', h4, _⟩ := hx hp
    rw [h4] at hi
    have := Option.some.inj hi
    injection this with e1 e2
    exact h2 e2.symm

/-! ### Rows of clocks of the reference -/
theorem rinfo3 : (Try.prog.info? 56).map (fun i => (i.zero, i.size, i.bytes)) = some (some (.agg (ints zeros).toArray), 256, 2048) := by kernel_rfl

/-- A slice of one whole clock. -/
theorem wpList_build_clock {ops : Array Oper} {rest : List Oper} {o : Oper} {a : Act} {w : World} {Q : Exit → Act → World → Prop} (hgd : o.guard = none) (y : Operand) (ho : o.op = .buildSlice 78 1 #[(0, y)])
    (Z : Array Value) (hy : a.eval y = .agg Z) (hs : Z.size = 256)
    (h : wpList Try.prog ops Q rest (a.put o.dst (.slice (some ⟨w.heap.size, 0, none⟩) 1 1)) (w.alloc (.cells Z 56))) : wpList Try.prog ops Q (o :: rest) a w := by
  obtain ⟨i, hi, hz, hsz, _⟩ := info_parts rinfo3
  refine wpList_buildSlice hgd 78 56 1 _ ho Z i _ Try.underlying78 hi hz (by rw [hsz]; decide) (by rw [hsz]; decide) ?_ h
  have := Great.fill_whole (s := 256) (by decide) [.agg Z] ((Array.range (1 * i.size)).map (fun j => (Value.agg (ints zeros).toArray).cells[j % (Value.agg (ints zeros).toArray).cells.size]!)) (fun v hv => by
    obtain rfl := List.mem_singleton.1 hv
    exact hs) (by simp [hsz])
  rw [hsz] at this ⊢
  simpa [hy, Value.cells] using this

theorem flat_at : ∀ (nss : List (List Int)), (∀ x, x ∈ nss → x.length = 256) → ∀ j i, j < nss.length → i < 256 → nss.flatten[j * 256 + i]? = (nss.getD j [])[i]?
  | [], _, j, i, hj, _ => by simp at hj
  | x :: nss, h, 0, i, hj, hi => by
    have hx := h x (by simp)
    simp only [List.flatten_cons, Nat.zero_mul, Nat.zero_add, List.getD_cons_zero]
    rw [List.getElem?_append_left (by omega)]
  | x :: nss, h, j + 1, i, hj, hi => by
    have hx := h x (by simp)
    simp only [List.flatten_cons, List.getD_cons_succ]
    rw [List.getElem?_append_right (by rw [hx]; omega), hx, ← flat_at nss (fun y hy => h y (by simp [hy])) j i (by simpa using hj) hi]
    congr 1
    omega
theorem flat_len : ∀ (nss : List (List Int)), (∀ x, x ∈ nss → x.length = 256) → nss.flatten.length = nss.length * 256
  | [], _ => rfl
  | x :: nss, h => by
    rw [List.flatten_cons, List.length_append, h x (by simp), flat_len nss (fun y hy => h y (by simp [hy])), List.length_cons]
    omega

end Go.Proofs.Ytlkfhobacgnckaa

