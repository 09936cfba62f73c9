
/-
  The reference's Decode in plain words, and where its walk stands.
-/
import Derived.Test.YtpefjcmaggimhaaDeeK
import Derived.Test.YtpefjcmaggimhaaDeeG
import Derived.Test.YtpefjcmaggimhaaKp
namespace Go.Proofs.Ytpefjcmaggimhaa
open Go.RowKit
set_option linter.unusedVariables false
set_option linter.unusedSimpArgs false
set_option maxRecDepth 100000

def rdA (s : List UInt8) (p : Int) : Int × List UInt8 := if 0 < limA (numV s) p then (numV (numR s), numR (numR s)) else (0, numR s)
def rdB (s : List UInt8) (p : Int) : Int × List UInt8 := if 0 < limB (numV s) ∧ 0 ≤ (rdA s p).1 then (numV (rdA s p).2, numR (rdA s p).2) else (0, (rdA s p).2)
def rCs : Nat → List UInt8 → Option (List Cs × List UInt8)
  | 0, l => some ([], l)
  | n + 1, l =>
    if numV l < 0 ∨ 1 < numV l then none
    else if numV (numR l) < 0 then none
    else if numV (numR (numR l)) < 0 then none
    else (rCs n (numR (numR (numR l)))).map fun r => (⟨numV l == 1, numV (numR l), numV (numR (numR l))⟩ :: r.1, r.2)
def rFin (o : Opn) (l : List UInt8) (p : Int) : Option (Opn × List UInt8) := if chkO o p = 0 then some (o, l) else none
def rDec6 (k a b : Int) (l : List UInt8) (p : Int) : Option (Opn × List UInt8) :=
  if numV l < 0 ∨ 1 < numV l then none
  else if numV (numR l) < 0 ∨ 4 < numV (numR l) then none
  else (rCs (numV (numR l)).toNat (numR (numR l))).bind fun x => rFin ⟨k, a, b, x.1, numV l == 1⟩ x.2 p
def rDec (s : List UInt8) (p : Int) : Option (Opn × List UInt8) :=
  if numV s < 1 ∨ 9 < numV s then none
  else if numV s = 6 then rDec6 (numV s) (rdA s p).1 (rdB s p).1 (rdB s p).2 p
  else rFin ⟨numV s, (rdA s p).1, (rdB s p).1, [], false⟩ (rdB s p).2 p
def rdX (s : List UInt8) (p : Int) : Option (Opn × List UInt8) := if p < 1 ∨ 8 < p then none else rDec s p
def rdO (s : List UInt8) (p : Int) : Opn := match rdX s p with | some x => x.1 | none => zeroOp
def rdZ (s : List UInt8) (p : Int) : Nat := match rdX s p with | some x => s.length - x.2.length | none => 0
def rdF (s : List UInt8) (p : Int) : Int := if p < 1 ∨ 8 < p then 1 else if (rdX s p).isSome then 0 else 4

def gotC (v : Value) (o : Opn) (z : Nat) : Array Value := #[.int .i64 o.k, .int .i64 o.a, .int .i64 o.b, v, .bool o.df, .int .i64 z]
structure RcSt (s l : List UInt8) (z : Nat) (o : Opn) (v : Value) (O : Nat) (w0 w : World) : Prop where
  res : w.heap[w0.heap.size]? = some (Obj.cells (gotC (.slice none 0 0) zeroOp 0) 83 (0, 0))
  rn : RnAt s l z (w0.heap.size + 1) w
  op : w.heap[O]? = some (Obj.cells (opC v o) 48 (0, 0))
  row : w.ownsRow (w0.heap.size + 2) 50 3 v o.cs.length (csCells o.cs)
  bel : Below w0.heap.size w0 w
  low : w0.heap.size + 2 ≤ O
theorem RcSt.neO {s l : List UInt8} {z : Nat} {o : Opn} {v : Value} {O : Nat} {w0 w : World} (h : RcSt s l z o v O w0 w) : v.ownBlock ≠ some O := by
  intro e
  rcases h.row.2 with ⟨rfl, _⟩ | ⟨g, cap, cur, rfl, _, hg, _⟩
  · cases e
  · have := Option.some.inj e
    subst this
    rw [h.op] at hg
    have := Option.some.inj hg
    injection this with e1 e2
    exact absurd e2 (by decide)
theorem RcSt.ne {s l : List UInt8} {z : Nat} {o : Opn} {v : Value} {O : Nat} {w0 w : World} (h : RcSt s l z o v O w0 w) {k : Nat} (hk : k < w0.heap.size + 2) : some k ≠ v.ownBlock := fun e => by have := (h.row.lt _ e.symm).1; omega
theorem RcSt.below {s l : List UInt8} {z : Nat} {o : Opn} {v : Value} {O : Nat} {w0 w w' : World} (h : RcSt s l z o v O w0 w) (hB : Below w.heap.size w w') : RcSt s l z o v O w0 w' :=
  ⟨(hB.block _ (lt_of_heap h.res)).trans h.res, h.rn.below hB, (hB.block _ (lt_of_heap h.op)).trans h.op, h.row.kept (below_grown hB) (by cases v.ownBlock <;> simp), h.bel.trans (hB.mono h.bel.size), h.low⟩
/-- A number is read. -/
theorem RcSt.num {s l l' : List UInt8} {z z' : Nat} {o : Opn} {v : Value} {O : Nat} {w0 w w' : World} (h : RcSt s l z o v O w0 w) (hr : RnAt s l' z' (w0.heap.size + 1) w') (hg : w.grownBy w' (some (w0.heap.size + 1))) : RcSt s l' z' o v O w0 w' :=
  ⟨(hg.block _ (lt_of_heap h.res) (by intro e; have := Option.some.inj e; omega)).trans h.res, hr, (hg.block _ (lt_of_heap h.op) (by intro e; have := Option.some.inj e; have := h.low; omega)).trans h.op,
    h.row.kept hg (.inr fun e => h.ne (by omega) e.symm), h.bel.grown hg h.bel.size (fun k hk => by have := Option.some.inj hk; omega), h.low⟩
/-- A field of the operation is set. -/
theorem RcSt.set {s l : List UInt8} {z : Nat} {o o' : Opn} {v : Value} {O : Nat} {w0 w : World} (h : RcSt s l z o v O w0 w) (c : Nat) (u : Value) (hx : (opC v o).setIfInBounds c u = opC v o') (hc : o'.cs = o.cs) : RcSt s l z o' v O w0 (w.setCell ⟨O, c, none⟩ u) :=
  ⟨(heap_setCell_other _ _ _ _ (by show w0.heap.size ≠ O; have := h.low; omega)).trans h.res, h.rn.gr (gr_set _ _ _) (by intro e; have := Option.some.inj e; have h5 : w0.heap.size + 1 = O := this; have := h.low; omega), by rw [← hx]; exact heap_setCell_same _ _ _ _ _ _ h.op,
    by rw [hc]; exact h.row.kept (gr_set _ _ _) (.inr h.neO), h.bel.setCell (by show w0.heap.size ≤ O; have := h.low; omega) _, h.low⟩
/-- A case is appended, and the slice stored. -/
theorem RcSt.app {s l : List UInt8} {z : Nat} {o : Opn} {v v' : Value} {O : Nat} {w0 w w' : World} {c : Cs} (h : RcSt s l z o v O w0 w) (hr : w'.ownsRow (w0.heap.size + 2) 50 3 v' (o.cs.length + 1) (csCells o.cs ++ (csC c).toList)) (hg : w.grownBy w' v.ownBlock) :
    w'.heap[O]? = some (Obj.cells (opC v o) 48 (0, 0)) ∧ RcSt s l z ⟨o.k, o.a, o.b, o.cs ++ [c], o.df⟩ v' O w0 (w'.setCell ⟨O, 3, none⟩ v') := by
  have h1 : w'.heap[w0.heap.size]? = _ := (hg.block _ (lt_of_heap h.res) (h.ne (by omega))).trans h.res
  have h2 := h.rn.gr hg (h.ne (by omega))
  have h3 : w'.heap[O]? = _ := (hg.block _ (lt_of_heap h.op) (fun e => h.neO e.symm)).trans h.op
  have hb : Below w0.heap.size w0 w' := h.bel.grown hg h.bel.size (fun k hk => by have := (h.row.lt k hk).1; omega)
  have hlow := h.low
  have hne : v'.ownBlock ≠ some O := by
    intro e
    rcases hr.2 with ⟨rfl, _⟩ | ⟨g, cap, cur, rfl, _, hg', _⟩
    · cases e
    · have := Option.some.inj e
      subst this
      rw [h3] at hg'
      have := Option.some.inj hg'
      injection this with e1 e2
      exact absurd e2 (by decide)
  refine ⟨h3, ⟨(heap_setCell_other _ _ _ _ (by show w0.heap.size ≠ O; omega)).trans h1, h2.gr (gr_set _ _ _) (by intro e; have h5 : w0.heap.size + 1 = O := Option.some.inj e; omega), ?_, ?_, hb.setCell (by show w0.heap.size ≤ O; omega) _, hlow⟩⟩
  · rw [heap_setCell_same _ _ _ _ _ _ h3]; rfl
  · dsimp only
    rw [List.length_append, List.length_singleton, csCells_snoc]
    exact hr.kept (gr_set _ _ _) (.inr hne)

def RDecPostT (s : List UInt8) (p : Int) (w : World) (r : Ending) (w' : World) : Prop :=
  ∃ v, r = .returned (.tuple #[.agg (gotC v (rdO s p) (rdZ s p)), .int .i64 (rdF s p)]) ∧ CssTy w' v (rdO s p).cs ∧ Below w.heap.size w w'
theorem rdec_at {s : List UInt8} {p : Int} {w V : World} {B : Nat} {x : Opn} {v : Value} {z : Nat} {tmps : Array Value} (hc : V.heap[B]? = some (Obj.cells (gotC v x z) 83 (0, 0))) (hb : Below w.heap.size w V)
    (ht : tmps.getD 4 undef = .pointer (some ⟨B, 0, none⟩)) (hx : rdO s p = x) (hz : rdZ s p = z) (hf : Value.int .i64 (rdF s p) = tmps.getD 5 undef) (hcs : CssTy V v x.cs) :
    bodyPost Try.prog Try.f41 (RDecPostT s p w) Exit.ret { tmps := tmps, defers := [] } V := by
  obtain ⟨z0, z1, z2, z3, z4, z5, zf⟩ := six_cells hc
  have ht' : tmps[4]?.getD undef = .pointer (some ⟨B, 0, none⟩) := by simpa using ht
  refine bodyPost_ret (v := .tuple #[.agg (gotC v x z), tmps.getD 5 undef]) ?_ rfl ⟨v, by rw [hx, hz, hf], by rw [hx]; exact hcs, hb⟩
  simp [results, Try.results41, ht', asAddr, go_sem, z0, z1, z2, z3, z4, z5, gotC]
theorem rdec_end {s : List UInt8} {p : Int} {w W : World} {B : Nat} {x y : Opn} {v vy : Value} {z zy : Nat} {tmps : Array Value} (h : W.heap[B]? = some (Obj.cells (gotC vy y zy) 83 (0, 0))) (hB : Below w.heap.size w W) (hle : w.heap.size ≤ B)
    (ht : tmps.getD 4 undef = .pointer (some ⟨B, 0, none⟩)) (hx : rdO s p = x) (hz : rdZ s p = z) (hf : Value.int .i64 (rdF s p) = tmps.getD 5 undef) (hcs : ∀ V, W.grownBy V (some B) → CssTy V v x.cs) :
    bodyPost Try.prog Try.f41 (RDecPostT s p w) Exit.ret { tmps := tmps, defers := [] }
      (((((((W.setCell ⟨B, 0, none⟩ (.int .i64 x.k)).setCell ⟨B, 1, none⟩ (.int .i64 x.a)).setCell ⟨B, 2, none⟩ (.int .i64 x.b)).setCell ⟨B, 3, none⟩ v).setCell ⟨B, 4, none⟩ (.bool x.df)).setCell ⟨B, 5, none⟩ (.int .i64 z))) := by
  obtain ⟨V, hV⟩ : ∃ V, ((((((W.setCell ⟨B, 0, none⟩ (.int .i64 x.k)).setCell ⟨B, 1, none⟩ (.int .i64 x.a)).setCell ⟨B, 2, none⟩ (.int .i64 x.b)).setCell ⟨B, 3, none⟩ v).setCell ⟨B, 4, none⟩ (.bool x.df)).setCell ⟨B, 5, none⟩ (.int .i64 z)) = V := ⟨_, rfl⟩
  have hc : V.heap[B]? = some (Obj.cells (gotC v x z) 83 (0, 0)) := by
    rw [← hV]
    have h0 := heap_setCell_same _ _ 0 _ _ (.int .i64 x.k) h
    have h1 := heap_setCell_same _ _ 1 _ _ (.int .i64 x.a) h0
    have h2 := heap_setCell_same _ _ 2 _ _ (.int .i64 x.b) h1
    have h3 := heap_setCell_same _ _ 3 _ _ v h2
    have h4 := heap_setCell_same _ _ 4 _ _ (.bool x.df) h3
    have h5 := heap_setCell_same _ _ 5 _ _ (.int .i64 z) h4
    rw [h5]
    simp [gotC]
  have hb : Below w.heap.size w V := by
    rw [← hV]
    exact (((((hB.setCell hle _).setCell hle _).setCell hle _).setCell hle _).setCell hle _).setCell hle _
  have hg : W.grownBy V (some B) := by
    rw [← hV]
    exact (((((gr_set W ⟨B, 0, none⟩ _).trans (gr_set _ ⟨B, 1, none⟩ _)).trans (gr_set _ ⟨B, 2, none⟩ _)).trans (gr_set _ ⟨B, 3, none⟩ _)).trans (gr_set _ ⟨B, 4, none⟩ _)).trans (gr_set _ ⟨B, 5, none⟩ _)
  rw [hV]
  exact rdec_at hc hb ht hx hz hf (hcs _ hg)
theorem rdec_endD {s : List UInt8} {p : Int} {w W : World} {B : Nat} {x y : Opn} {v vy : Value} {z zy : Nat} {tmps : Array Value} (h : W.heap[B]? = some (Obj.cells (gotC vy y zy) 83 (0, 0))) (hB : Below w.heap.size w W) (hle : w.heap.size ≤ B)
    (ht : tmps.getD 4 undef = .pointer (some ⟨B, 0, none⟩)) (hx : rdO s p = x) (hz : rdZ s p = z) (hf : Value.int .i64 (rdF s p) = tmps.getD 5 undef) (hcs : ∀ V, W.grownBy V (some B) → CssTy V v x.cs) :
    bodyPost Try.prog Try.f41 (RDecPostT s p w) Exit.ret { tmps := tmps, defers := [] }
      (((((((W.setCell ⟨B, 0, none⟩ (.int .i64 x.k)).setCell ⟨B, 1, none⟩ (.int .i64 x.a)).setCell ⟨B, 2, none⟩ (.int .i64 x.b)).setCell ⟨B, 3, none⟩ v).setCell ⟨B, 4, none⟩ (.bool x.df)).setCell ⟨B, 5, none⟩ (.int .i64 z)).drew) := by
  obtain ⟨V, hV⟩ : ∃ V, ((((((W.setCell ⟨B, 0, none⟩ (.int .i64 x.k)).setCell ⟨B, 1, none⟩ (.int .i64 x.a)).setCell ⟨B, 2, none⟩ (.int .i64 x.b)).setCell ⟨B, 3, none⟩ v).setCell ⟨B, 4, none⟩ (.bool x.df)).setCell ⟨B, 5, none⟩ (.int .i64 z)) = V := ⟨_, rfl⟩
  have hc : V.heap[B]? = some (Obj.cells (gotC v x z) 83 (0, 0)) := by
    rw [← hV]
    have h0 := heap_setCell_same _ _ 0 _ _ (.int .i64 x.k) h
    have h1 := heap_setCell_same _ _ 1 _ _ (.int .i64 x.a) h0
    have h2 := heap_setCell_same _ _ 2 _ _ (.int .i64 x.b) h1
    have h3 := heap_setCell_same _ _ 3 _ _ v h2
    have h4 := heap_setCell_same _ _ 4 _ _ (.bool x.df) h3
    have h5 := heap_setCell_same _ _ 5 _ _ (.int .i64 z) h4
    rw [h5]
    simp [gotC]
  have hb : Below w.heap.size w V := by
    rw [← hV]
    exact (((((hB.setCell hle _).setCell hle _).setCell hle _).setCell hle _).setCell hle _).setCell hle _
  have hg : W.grownBy V (some B) := by
    rw [← hV]
    exact (((((gr_set W ⟨B, 0, none⟩ _).trans (gr_set _ ⟨B, 1, none⟩ _)).trans (gr_set _ ⟨B, 2, none⟩ _)).trans (gr_set _ ⟨B, 3, none⟩ _)).trans (gr_set _ ⟨B, 4, none⟩ _)).trans (gr_set _ ⟨B, 5, none⟩ _)
  rw [hV]
  exact rdec_at (V := V.drew) hc hb.drew ht hx hz hf (hcs _ (hg.trans (gr_drew _ _)))
end Go.Proofs.Ytpefjcmaggimhaa

