
/-
  Package deed: Decode in plain words, and where its walk stands.
-/
import Derived.Test.YtpefjcmaggimhaaDeeF
import Derived.Test.YtpefjcmaggimhaaDeeE
namespace Go.Proofs.Ytpefjcmaggimhaa
open Go.RowKit
set_option linter.unusedVariables false
set_option linter.unusedSimpArgs false
set_option maxRecDepth 100000

/-- A number taken. -/
def Tk.val (t : Tk) : Int := takV t.l
def dT1 (s : List UInt8) : Tk := Tk.next ⟨s, false⟩
def dA (s : List UInt8) (p : Int) : Int × Tk := if 0 < limA (takV s) p then ((dT1 s).val, (dT1 s).next) else (0, dT1 s)
def dB (s : List UInt8) (p : Int) : Int × Tk := if 0 < limB (takV s) then ((dA s p).2.val, (dA s p).2.next) else (0, (dA s p).2)
def dL : Nat → Int → Tk → List Cs × Tk
  | 0, _, t => ([], t)
  | f + 1, c, t =>
    if 0 < c ∧ t.bad = false then
      (⟨t.val == 1, t.nextT.val, t.nextT.next.val⟩ :: (dL f (c - 1) t.nextT.next.next).1, (dL f (c - 1) t.nextT.next.next).2)
    else ([], t)
def dOp (s : List UInt8) (p : Int) : Opn × Tk :=
  if takV s = 6 then (⟨takV s, (dA s p).1, (dB s p).1, (dL 5 (dB s p).2.nextT.val (dB s p).2.nextT.next).1, (dB s p).2.val == 1⟩, (dL 5 (dB s p).2.nextT.val (dB s p).2.nextT.next).2)
  else (⟨takV s, (dA s p).1, (dB s p).1, [], false⟩, (dB s p).2)
def zeroOp : Opn := ⟨0, 0, 0, [], false⟩
def decOk (s : List UInt8) (p : Int) : Bool := decide (1 ≤ p ∧ p ≤ 8) && (!(dOp s p).2.bad && (chkO (dOp s p).1 p == 0))
def decO (s : List UInt8) (p : Int) : Opn := if decOk s p then (dOp s p).1 else zeroOp
def decOR (s : List UInt8) (p : Int) : List UInt8 := if decOk s p then (dOp s p).2.l else []
def decOF (s : List UInt8) (p : Int) : Int := if p < 1 ∨ 8 < p then 1 else if decOk s p then 0 else 4

/-! ### Rows of cases -/
def csC (c : Cs) : Array Value := #[.bool c.sd, .int .i64 c.ch, .int .i64 c.va]
def csCells (es : List Cs) : List Value := es.flatMap fun e => (csC e).toList
theorem csCells_at : ∀ (es : List Cs) (i : Nat), i < es.length → ∀ c, c < 3 → (csCells es)[i * 3 + c]? = (csC (es.getD i default)).toList[c]?
  | [], i, h, c, hc => by simp at h
  | e :: es, 0, h, c, hc => by
    show ((csC e).toList ++ csCells es)[0 * 3 + c]? = _
    rw [List.getElem?_append_left (by show _ < 3; omega)]
    simp
  | e :: es, i + 1, h, c, hc => by
    show ((csC e).toList ++ csCells es)[(i + 1) * 3 + c]? = _
    rw [List.getElem?_append_right (by show 3 ≤ _; omega), show (i + 1) * 3 + c - (csC e).toList.length = i * 3 + c by show (i + 1) * 3 + c - 3 = _; omega, csCells_at es i (by simpa using h) c hc]
    simp
theorem csCells_snoc (es : List Cs) (e : Cs) : csCells (es ++ [e]) = csCells es ++ (csC e).toList := by
  simp [csCells, List.flatMap_append]
theorem csC_one (e : Cs) : ∀ u ∈ (csC e).toList, u.oneCell' = true := by
  intro u hu
  simp [csC] at hu
  rcases hu with rfl | rfl | rfl <;> rfl
theorem css_of_own {w : World} {base : Nat} {v : Value} {es : List Cs} (h : w.ownsRow base 50 3 v es.length (csCells es)) : CssOf w v es := by
  rcases h.2 with ⟨rfl, h0⟩ | ⟨g, cap, cur, rfl, hbg, hg, hnc, hcm, hcs, htake⟩
  · exact ⟨none, 0, by rw [h0], fun hp => by omega⟩
  · refine ⟨some ⟨g, 0, none⟩, cap, rfl, fun _ => ⟨g, 0, rfl, fun i hi => ?_⟩⟩
    have key : ∀ c u, c < 3 → (csC (es.getD i default)).toList[c]? = some u → w.cell? ⟨g, 0 + i * 3 + c, none⟩ = some u := fun c u hc hu => by
      have := h.cells (g := g) rfl (i * 3 + c) u (by rw [csCells_at es i hi c hc]; exact hu)
      rw [add_mid', ← Nat.add_assoc] at this
      exact this
    exact ⟨key 0 _ (by omega) rfl, key 1 _ (by omega) rfl, key 2 _ (by omega) rfl⟩
theorem csinfo : (Try.prog.info? 50).map (fun i => (i.zero, i.size, i.bytes)) = some (some (.agg (csC ⟨false, 0, 0⟩)), 3, 24) := by kernel_rfl
/-- The cases, and that they lie in a block of cases (or there is none). -/
def CssTy (w : World) (v : Value) (cs : List Cs) : Prop := CssOf w v cs ∧ ∀ g o n c, v = .slice (some ⟨g, o, none⟩) n c → ∃ cur, w.heap[g]? = some (.cells cur 50 (0, 0))
theorem CssTy.nil (w : World) : CssTy w (.slice none 0 0) [] := ⟨CssOf.nil w, fun g o n c h => by injection h with h1; cases h1⟩
theorem cssTy_of_own {w : World} {base : Nat} {v : Value} {es : List Cs} (h : w.ownsRow base 50 3 v es.length (csCells es)) : CssTy w v es := by
  refine ⟨css_of_own h, fun g o n c hv => ?_⟩
  rcases h.2 with ⟨rfl, _⟩ | ⟨g', cap, cur, rfl, _, hg, _⟩
  · injection hv with h1; cases h1
  · injection hv with h1
    injection h1 with h1
    injection h1 with h1
    subst h1
    exact ⟨cur, hg⟩

/-! ### Where Decode stands -/
def opC (v : Value) (o : Opn) : Array Value := #[.int .i64 o.k, .int .i64 o.a, .int .i64 o.b, v, .bool o.df]
structure DcSt (t : Tk) (o : Opn) (v : Value) (w0 w : World) : Prop where
  res : w.heap[w0.heap.size]? = some (Obj.cells (opC (.slice none 0 0) zeroOp) 48 (0, 0))
  tk : TkAt t (w0.heap.size + 1) w
  op : w.heap[w0.heap.size + 2]? = some (Obj.cells (opC v o) 48 (0, 0))
  row : w.ownsRow (w0.heap.size + 3) 50 3 v o.cs.length (csCells o.cs)
  bel : Below w0.heap.size w0 w
theorem DcSt.below {t : Tk} {o : Opn} {v : Value} {w0 w w' : World} (h : DcSt t o v w0 w) (hB : Below w.heap.size w w') : DcSt t o v w0 w' :=
  ⟨(hB.block _ (lt_of_heap h.res)).trans h.res, h.tk.below hB, (hB.block _ (lt_of_heap h.op)).trans h.op, h.row.kept (below_grown hB) (by cases v.ownBlock <;> simp), h.bel.trans (hB.mono h.bel.size)⟩
theorem DcSt.ne {t : Tk} {o : Opn} {v : Value} {w0 w : World} (h : DcSt t o v w0 w) {k : Nat} (hk : k < w0.heap.size + 3) : some k ≠ v.ownBlock := fun e => by have := (h.row.lt _ e.symm).1; omega
/-- A take. -/
theorem DcSt.take {t t' : Tk} {o : Opn} {v : Value} {w0 w w' : World} (h : DcSt t o v w0 w) (ht : TkAt t' (w0.heap.size + 1) w') (hg : w.grownBy w' (some (w0.heap.size + 1))) : DcSt t' o v w0 w' :=
  ⟨(hg.block _ (lt_of_heap h.res) (by intro e; have := Option.some.inj e; omega)).trans h.res, ht, (hg.block _ (lt_of_heap h.op) (by intro e; have := Option.some.inj e; omega)).trans h.op, h.row.kept hg (.inr fun e => h.ne (by omega) e.symm),
    h.bel.grown hg h.bel.size (fun k hk => by have := Option.some.inj hk; omega)⟩
/-- A field of the operation is set. -/
theorem DcSt.set {t : Tk} {o o' : Opn} {v : Value} {w0 w : World} (h : DcSt t o v w0 w) (c : Nat) (u : Value) (hx : (opC v o).setIfInBounds c u = opC v o') (hc : o'.cs = o.cs) : DcSt t o' v w0 (w.setCell ⟨w0.heap.size + 2, c, none⟩ u) :=
  ⟨(heap_setCell_other _ _ _ _ (by show w0.heap.size ≠ w0.heap.size + 2; omega)).trans h.res, (heap_setCell_other _ _ _ _ (by show w0.heap.size + 1 ≠ w0.heap.size + 2; omega)).trans h.tk, by rw [← hx]; exact heap_setCell_same _ _ _ _ _ _ h.op,
    by rw [hc]; exact h.row.kept (gr_set _ _ _) (.inr fun e => h.ne (by show w0.heap.size + 2 < _; omega) e.symm), h.bel.setCell (by show w0.heap.size ≤ w0.heap.size + 2; omega) _⟩
/-- A case is appended, and the slice stored. -/
theorem DcSt.app {t : Tk} {o : Opn} {v v' : Value} {w0 w w' : World} {c : Cs} (h : DcSt t o v w0 w) (hr : w'.ownsRow (w0.heap.size + 3) 50 3 v' (o.cs.length + 1) (csCells o.cs ++ (csC c).toList)) (hg : w.grownBy w' v.ownBlock) :
    w'.heap[w0.heap.size + 2]? = some (Obj.cells (opC v o) 48 (0, 0)) ∧ DcSt t ⟨o.k, o.a, o.b, o.cs ++ [c], o.df⟩ v' w0 (w'.setCell ⟨w0.heap.size + 2, 3, none⟩ v') := by
  have h1 : w'.heap[w0.heap.size]? = _ := (hg.block _ (lt_of_heap h.res) (h.ne (by omega))).trans h.res
  have h2 : TkAt t (w0.heap.size + 1) w' := (hg.block _ (lt_of_heap h.tk) (h.ne (by omega))).trans h.tk
  have h3 : w'.heap[w0.heap.size + 2]? = _ := (hg.block _ (lt_of_heap h.op) (h.ne (by omega))).trans h.op
  have hb : Below w0.heap.size w0 w' := h.bel.grown hg h.bel.size (fun k hk => by have := (h.row.lt k hk).1; omega)
  refine ⟨h3, ⟨(heap_setCell_other _ _ _ _ (by show w0.heap.size ≠ w0.heap.size + 2; omega)).trans h1, (heap_setCell_other _ _ _ _ (by show w0.heap.size + 1 ≠ w0.heap.size + 2; omega)).trans h2, ?_, ?_, hb.setCell (by show w0.heap.size ≤ w0.heap.size + 2; omega) _⟩⟩
  · rw [heap_setCell_same _ _ _ _ _ _ h3]; rfl
  · dsimp only
    rw [List.length_append, List.length_singleton, csCells_snoc]
    exact hr.kept (gr_set _ _ _) (.inr fun e => by have := (hr.lt _ e).1; dsimp only at this; omega)
/-- Another block is written. -/
theorem DcSt.gr {t : Tk} {o : Opn} {v : Value} {w0 w w' : World} (h : DcSt t o v w0 w) {c : Nat} (hg : w.grownBy w' (some c)) (hc : w0.heap.size + 3 ≤ c) (hne : v.ownBlock ≠ some c) : DcSt t o v w0 w' :=
  ⟨(hg.block _ (lt_of_heap h.res) (by intro e; have := Option.some.inj e; omega)).trans h.res, (hg.block _ (lt_of_heap h.tk) (by intro e; have := Option.some.inj e; omega)).trans h.tk,
    (hg.block _ (lt_of_heap h.op) (by intro e; have := Option.some.inj e; omega)).trans h.op, h.row.kept hg (.inr hne), h.bel.grown hg h.bel.size (fun k hk => by have := Option.some.inj hk; omega)⟩
theorem dL_stop {f : Nat} {c : Int} {t : Tk} (h : ¬ (0 < c ∧ t.bad = false)) : dL f c t = ([], t) := by
  cases f with
  | zero => rfl
  | succ f => unfold dL; rw [if_neg h]
theorem dL_go {f : Nat} {c : Int} {t : Tk} (h0 : 0 < c) (h1 : t.bad = false) : dL (f + 1) c t = (⟨t.val == 1, t.nextT.val, t.nextT.next.val⟩ :: (dL f (c - 1) t.nextT.next.next).1, (dL f (c - 1) t.nextT.next.next).2) := by
  conv => lhs; unfold dL
  rw [if_pos ⟨h0, h1⟩]
theorem dL_len : ∀ (f : Nat) (c : Int) (t : Tk), (dL f c t).1.length ≤ f
  | 0, c, t => by simp [dL]
  | f + 1, c, t => by
    unfold dL
    split
    · have := dL_len f (c - 1) t.nextT.next.next
      simp; omega
    · simp
end Go.Proofs.Ytpefjcmaggimhaa

