
/-
  staitheref15: rows of clocks that grow; laws for regions that draw; New.
-/
import Derived.Test.YtlkfhobacgnckaaRsC
import Derived.Great.BuildSlice
namespace Go.Proofs.Ytlkfhobacgnckaa
open Go.RowKit
set_option linter.unusedVariables false
set_option linter.unusedSimpArgs false
set_option maxRecDepth 100000

/-- A block of this type, in which these cells lie. -/
structure Lt (w : World) (b : Nat) (t : TypeId) (cs : List Value) : Prop where
  lg : Lg w b 0 cs
  ty : ∃ cur, w.heap[b]? = some (.cells cur t (0, 0))
theorem Lt.lt {w : World} {b : Nat} {t : TypeId} {cs : List Value} (h : Lt w b t cs) : b < w.heap.size := by
  obtain ⟨cur, hc⟩ := h.ty
  exact lt_of_heap hc
theorem Lt.block {w w' : World} {b : Nat} {t : TypeId} {cs : List Value} (h : Lt w b t cs) (hb : w'.heap[b]? = w.heap[b]?) : Lt w' b t cs := by
  obtain ⟨cur, hc⟩ := h.ty
  exact ⟨h.lg.block hb, cur, hb.trans hc⟩
theorem Lt.below {w w' : World} {b : Nat} {t : TypeId} {cs : List Value} (h : Lt w b t cs) (hB : Below w.heap.size w w') : Lt w' b t cs := h.block (hB.block b h.lt)
theorem Lt.turned {w w' : World} {b c : Nat} {t : TypeId} {cs : List Value} (h : Lt w b t cs) (ht : Turned (fun i => i = c) w w') (hne : b ≠ c) : Lt w' b t cs := h.block (ht.block b h.lt hne)
theorem Lt.grown {w w' : World} {b : Nat} {t : TypeId} {cs : List Value} (h : Lt w b t cs) {o : Option Nat} (hg : w.grownBy w' o) (hne : some b ≠ o) : Lt w' b t cs := h.block (hg.block b h.lt hne)
theorem Lt.new (w : World) (cs : List Value) (t : TypeId) {Z : Array Value} (hZ : cs.toArray = Z) : Lt (w.alloc (.cells Z t)) w.heap.size t cs := ⟨Lg.new w cs t hZ, Z, heap_alloc_new _ _⟩
theorem Lt.stored {w w' : World} {b n : Nat} {t : TypeId} {cs ds : List Value} (h : Lt w b t cs) (ho : Only b 0 n w w') (L : Lg w' b 0 ds) : Lt w' b t ds := by
  obtain ⟨cur, hc⟩ := h.ty
  exact ⟨L, only_ty ho hc⟩
theorem Lt.keepQ {B : Nat} {w w' : World} {b : Nat} {t : TypeId} {cs : List Value} (h : Lt w b t cs) (ht : t = 56 ∨ t = 80 ∨ t = 60) (hl : B ≤ b) (hT : Turned (fun i => i = b) w w') : KeepQ B w w' := by
  obtain ⟨cur, hc⟩ := h.ty
  exact keepQ_turned hc ht hl hT

/-! ### Rows -/
theorem flatV_snoc (us : List (List Int)) (l : List Int) : flatV (us ++ [l]) = flatV us ++ ints l := by
  unfold flatV
  rw [List.flatten_append, ints_append]
  simp
theorem step_append_clk {ops : Array Oper} {o : Oper} {a : Act} {w : World} {K : Act → World → Prop} {Q : Exit → Act → World → Prop} {E : Prop} (hgd : o.guard = none) (s x : Operand)
    (ho : o.op = .call { callee := .builtin .append, args := #[s, x], argTypes := #[78, 78] })
    (base : Nat) (v : Value) (n : Nat) (us : List (List Int)) (hs : a.eval s = v) (hown : w.ownsRow base 56 256 v n (flatV us))
    (q c : Nat) (l : List Int) (hll : l.length = 256) (hx : a.eval x = .slice (some ⟨q, 0, none⟩) 1 c) (hq : Lg w q 0 (ints l)) (hn : n ≤ 100000) (hbase : base ≤ w.heap.size)
    (h : ∀ g cap w', w'.ownsRow base 56 256 (.slice (some ⟨g, 0, none⟩) (n + 1) cap) (n + 1) (flatV (us ++ [l])) → w.grownBy w' v.ownBlock → (v.ownBlock = some g ∨ g = w.heap.size) → g < w'.heap.size → K (a.put o.dst (.slice (some ⟨g, 0, none⟩) (n + 1) cap)) w') :
    if Region.wanted o (yielded ops a.tmps) = true then Oper.wp Try.prog o a w K Q else E := by
  obtain ⟨i0, hi, hz0, hz1, hz2⟩ := info_parts rinfo3
  refine step_append_lies _ hgd s x 78 ho base 56 i0 (.agg (ints zeros).toArray) 256 2048 Try.underlying78 hi hz0 hz1 hz2 (by simp [Value.cells, length_ints, zeros]) (by decide) v n (flatV us) hs hown ⟨q, 0, none⟩ 1 c (ints l) hx (by rw [length_ints, hll]) ?_ (ints1 l) (by decide) (by unfold maxLen; omega) (by omega) hbase _ rfl ?_
  · intro j u hj
    rw [Addr.add_mid]
    exact hq.range j u hj
  · intro g cap w' h1 h2 h3 h4
    exact h g cap w' (by rw [flatV_snoc]; exact h1) h2 h3 h4
theorem wpList_append_clk {ops : Array Oper} {rest : List Oper} {o : Oper} {a : Act} {w : World} {Q : Exit → Act → World → Prop} (hgd : o.guard = none) (s x : Operand)
    (ho : o.op = .call { callee := .builtin .append, args := #[s, x], argTypes := #[78, 78] })
    (base : Nat) (v : Value) (n : Nat) (us : List (List Int)) (hs : a.eval s = v) (hown : w.ownsRow base 56 256 v n (flatV us))
    (q c : Nat) (l : List Int) (hll : l.length = 256) (hx : a.eval x = .slice (some ⟨q, 0, none⟩) 1 c) (hq : Lg w q 0 (ints l)) (hn : n ≤ 100000) (hbase : base ≤ w.heap.size)
    (h : ∀ g cap w', w'.ownsRow base 56 256 (.slice (some ⟨g, 0, none⟩) (n + 1) cap) (n + 1) (flatV (us ++ [l])) → w.grownBy w' v.ownBlock → (v.ownBlock = some g ∨ g = w.heap.size) → g < w'.heap.size → wpList Try.prog ops Q rest (a.put o.dst (.slice (some ⟨g, 0, none⟩) (n + 1) cap)) w') :
    wpList Try.prog ops Q (o :: rest) a w := by
  obtain ⟨i0, hi, hz0, hz1, hz2⟩ := info_parts rinfo3
  refine wpList_append_lies _ hgd s x 78 ho base 56 i0 (.agg (ints zeros).toArray) 256 2048 Try.underlying78 hi hz0 hz1 hz2 (by simp [Value.cells, length_ints, zeros]) (by decide) v n (flatV us) hs hown ⟨q, 0, none⟩ 1 c (ints l) hx (by rw [length_ints, hll]) ?_ (ints1 l) (by decide) (by unfold maxLen; omega) (by omega) hbase _ rfl ?_
  · intro j u hj
    rw [Addr.add_mid]
    exact hq.range j u hj
  · intro g cap w' h1 h2 h3 h4
    exact h g cap w' (by rw [flatV_snoc]; exact h1) h2 h3 h4
/-- One more is given. -/
theorem QAt.appS {B q : Nat} {w w' : World} {vS vR : Value} {Q : Rf} (h : QAt B q w vS vR Q) {l : List Int} (hl : l.length = 256) {g cap : Nat}
    (hown : w'.ownsRow B 56 256 (.slice (some ⟨g, 0, none⟩) (Q.S.length + 1) cap) (Q.S.length + 1) (flatV (Q.S ++ [l]))) (hgr : w.grownBy w' vS.ownBlock) (hg : vS.ownBlock = some g ∨ g = w.heap.size) :
    QAt B q (w'.setCell ⟨q, 1, none⟩ (.slice (some ⟨g, 0, none⟩) (Q.S.length + 1) cap)) (.slice (some ⟨g, 0, none⟩) (Q.S.length + 1) cap) vR ⟨Q.size, Q.S ++ [l], Q.R, Q.cl, Q.cg⟩ ∧ KeepQ B w (w'.setCell ⟨q, 1, none⟩ (.slice (some ⟨g, 0, none⟩) (Q.S.length + 1) cap)) := by
  obtain ⟨cur, hc⟩ := h.ty
  have hq : w'.heap[q]? = w.heap[q]? := (keepT_grown (e := 80) h.rowS hgr (by decide)) q cur _ hc
  have hc' : w'.heap[q]? = some (.cells cur 80 (0, 0)) := hq.trans hc
  have f : ∀ i, w'.cell? ⟨q, i, none⟩ = w.cell? ⟨q, i, none⟩ := fun i => World.cell?_of_block (a := ⟨q, i, none⟩) hq
  have rR : w'.ownsRow B 56 256 vR Q.R.length (flatV Q.R) := ownsRow_far h.rowR hgr (fun g' e e' => h.apart g' e e')
  have ho : Only q 1 1 w' (w'.setCell ⟨q, 1, none⟩ (.slice (some ⟨g, 0, none⟩) (Q.S.length + 1) cap)) := Only.of_set (t := 0) _ (by omega)
  have f' := fun i hi => only_cell ho hc' i hi
  have kT : KeepT 56 w' (w'.setCell ⟨q, 1, none⟩ (.slice (some ⟨g, 0, none⟩) (Q.S.length + 1) cap)) := keepT_set hc' (by decide)
  refine ⟨⟨only_ty ho hc', ((f' 0 (by omega)).trans (f 0)).trans h.c0, World.cell?_setCell_same _ _ _ ((f 1).trans h.c1), ((f' 2 (by omega)).trans (f 2)).trans h.c2, ((f' 3 (by omega)).trans (f 3)).trans h.c3, ⟨fun j v hj => ?_, fun i => ?_⟩, h.lg, ?_, ownsRow_keep rR kT, fun x hx => ?_, h.lR, fun g' e e' => ?_, h.low, ?_, h.sz⟩, (keepQ_grown h.rowS hgr).trans (keepQ_turned hc' (.inr (.inl rfl)) h.low ho.turned)⟩
  · rw [f' (4 + j) (by omega), f (4 + j)]
    exact h.cg.range j v hj
  · obtain ⟨cur', hcc⟩ := only_ty ho hc'
    simp [World.frozen?, hcc]
  · rw [show (Q.S ++ [l]).length = Q.S.length + 1 by simp]
    exact ownsRow_keep hown kT
  · rcases List.mem_append.1 hx with hx | hx
    · exact h.lS x hx
    · rw [List.mem_singleton.1 hx]; exact hl
  · cases e
    rcases hg with hg | hg
    · exact h.apart _ hg e'
    · have h1 := (own_lt h.rowR e').1
      dsimp only at h1
      omega
  · exact Nat.le_trans h.bw (Nat.le_trans hgr.size (by simp))
theorem QAt.appR {B q : Nat} {w w' : World} {vS vR : Value} {Q : Rf} (h : QAt B q w vS vR Q) {l : List Int} (hl : l.length = 256) {g cap : Nat}
    (hown : w'.ownsRow B 56 256 (.slice (some ⟨g, 0, none⟩) (Q.R.length + 1) cap) (Q.R.length + 1) (flatV (Q.R ++ [l]))) (hgr : w.grownBy w' vR.ownBlock) (hg : vR.ownBlock = some g ∨ g = w.heap.size) :
    QAt B q (w'.setCell ⟨q, 2, none⟩ (.slice (some ⟨g, 0, none⟩) (Q.R.length + 1) cap)) vS (.slice (some ⟨g, 0, none⟩) (Q.R.length + 1) cap) ⟨Q.size, Q.S, Q.R ++ [l], Q.cl, Q.cg⟩ ∧ KeepQ B w (w'.setCell ⟨q, 2, none⟩ (.slice (some ⟨g, 0, none⟩) (Q.R.length + 1) cap)) := by
  obtain ⟨cur, hc⟩ := h.ty
  have hq : w'.heap[q]? = w.heap[q]? := (keepT_grown (e := 80) h.rowR hgr (by decide)) q cur _ hc
  have hc' : w'.heap[q]? = some (.cells cur 80 (0, 0)) := hq.trans hc
  have f : ∀ i, w'.cell? ⟨q, i, none⟩ = w.cell? ⟨q, i, none⟩ := fun i => World.cell?_of_block (a := ⟨q, i, none⟩) hq
  have rS : w'.ownsRow B 56 256 vS Q.S.length (flatV Q.S) := ownsRow_far h.rowS hgr (fun g' e e' => h.apart g' e' e)
  have ho : Only q 2 1 w' (w'.setCell ⟨q, 2, none⟩ (.slice (some ⟨g, 0, none⟩) (Q.R.length + 1) cap)) := Only.of_set (t := 0) _ (by omega)
  have f' := fun i hi => only_cell ho hc' i hi
  have kT : KeepT 56 w' (w'.setCell ⟨q, 2, none⟩ (.slice (some ⟨g, 0, none⟩) (Q.R.length + 1) cap)) := keepT_set hc' (by decide)
  refine ⟨⟨only_ty ho hc', ((f' 0 (by omega)).trans (f 0)).trans h.c0, ((f' 1 (by omega)).trans (f 1)).trans h.c1, World.cell?_setCell_same _ _ _ ((f 2).trans h.c2), ((f' 3 (by omega)).trans (f 3)).trans h.c3, ⟨fun j v hj => ?_, fun i => ?_⟩, h.lg, ownsRow_keep rS kT, ?_, h.lS, fun x hx => ?_, fun g' e e' => ?_, h.low, ?_, h.sz⟩, (keepQ_grown h.rowR hgr).trans (keepQ_turned hc' (.inr (.inl rfl)) h.low ho.turned)⟩
  · rw [f' (4 + j) (by omega), f (4 + j)]
    exact h.cg.range j v hj
  · obtain ⟨cur', hcc⟩ := only_ty ho hc'
    simp [World.frozen?, hcc]
  · rw [show (Q.R ++ [l]).length = Q.R.length + 1 by simp]
    exact ownsRow_keep hown kT
  · rcases List.mem_append.1 hx with hx | hx
    · exact h.lR x hx
    · rw [List.mem_singleton.1 hx]; exact hl
  · cases e'
    rcases hg with hg | hg
    · exact h.apart _ e hg
    · have h1 := (own_lt h.rowS e).1
      dsimp only at h1
      omega
  · exact Nat.le_trans h.bw (Nat.le_trans hgr.size (by simp))

/-! ### Operations on long values, as defs of one's own (for regions that draw their order) -/
def ld56 (v : Value) := Instr.loadAt 56 v
theorem exec_ld56 (d : Option Tmp) (x : Operand) (ty : TypeId) (pos : String) (after : Array Edge) (gd : Option (Nat × Bool)) (ρ : Operand → Value) : execOp ρ (Oper.mk d (.load 56 x) ty pos after gd) = (do pure (.value (← ld56 (ρ x)))) := rfl
theorem run_ld56 (b o : Nat) (l : List Int) (hl : l.length = 256) (Z : Array Value) (hZ : (ints l).toArray = Z) (w : World) (h : w.rangeAt b o (ints l)) : (ld56 (.pointer (some ⟨b, o, none⟩))).run Try.prog w = .ok (.agg Z) w := by
  subst hZ
  exact run_loadAt_mid w b o 56 (ints l) _ h Try.underlying56 rfl (by rw [rsize, length_ints, hl])
def bs78 (v : Value) := Instr.buildSlice 78 1 #[(0, v)]
theorem exec_bs78 (d : Option Tmp) (x : Operand) (ty : TypeId) (pos : String) (after : Array Edge) (gd : Option (Nat × Bool)) (ρ : Operand → Value) : execOp ρ (Oper.mk d (.buildSlice 78 1 #[(0, x)]) ty pos after gd) = (do pure (.value (← bs78 (ρ x)))) := by
  simp only [execOp, bs78, List.map_toArray, List.map_cons, List.map_nil]
theorem run_bs78 (Z : Array Value) (hs : Z.size = 256) (w : World) : (bs78 (.agg Z)).run Try.prog w = .ok (.slice (some ⟨w.heap.size, 0, none⟩) 1 1) (w.alloc (.cells Z 56)) := by
  obtain ⟨i, hi, hz, hsz, _⟩ := info_parts rinfo3
  refine run_buildSlice w 78 56 1 _ Z i _ Try.underlying78 hi hz (by rw [hsz]; decide) (by rw [hsz]; decide) ?_
  have := Great.fill_whole (s := 256) (by decide) [.agg Z] ((Array.range (1 * i.size)).map (fun j => (Value.agg (ints zeros).toArray).cells[j % (Value.agg (ints zeros).toArray).cells.size]!)) (fun v hv => by
    obtain rfl := List.mem_singleton.1 hv
    exact hs) (by simp [hsz])
  rw [hsz] at this ⊢
  simpa [Value.cells] using this

/-! ### New -/
def z80 : Array Value := #[.int .i64 0, .slice none 0 0, .slice none 0 0, .bool false] ++ (ints zeros).toArray
theorem built_sl (parts : List (Nat × Value)) : Try.prog.built 80 parts = Instr.fill ((#[(0, 1), (1, 1), (2, 1), (3, 1), (4, 256)] : Array (Nat × Nat))[·]?) z80 parts := by kernel_rfl
def slA (n : Int) : Array Value := z80.setIfInBounds 0 (.int .i64 n)
theorem run_build_sl (n : Int) (w : World) : (Instr.build 80 #[(0, .int .i64 n)]).run Try.prog w = .ok (.agg (slA n)) w := by
  refine run_build w _ _ _ ?_
  rw [built_sl]
  have hs : z80.size = 260 := by simp [z80, length_ints, zeros]
  have s1 := fill_step ((#[(0, 1), (1, 1), (2, 1), (3, 1), (4, 256)] : Array (Nat × Nat))[·]?) z80 0 (.int .i64 n) 0 1 [] rfl rfl (by rw [hs]; decide)
  show Instr.fill _ z80 [(0, .int .i64 n)] = _
  rw [s1]
  unfold slA
  obtain ⟨z, hz⟩ : ∃ z, z80 = z := ⟨_, rfl⟩
  rw [hz]
  rfl
theorem wpList_build_sl {ops : Array Oper} {rest : List Oper} {op : Oper} {a : Act} {w : World} {Q : Exit → Act → World → Prop} (hgd : op.guard = none) (x : Operand) (ho : op.op = .build 80 #[(0, x)])
    (n : Int) (hx : a.eval x = .int .i64 n)
    (h : wpList Try.prog ops Q rest (a.put op.dst (.agg (slA n))) w) : wpList Try.prog ops Q (op :: rest) a w := by
  refine wpList_plain hgd fun K hK => ?_
  unfold Oper.wp execOp
  have hr := run_build_sl n w
  simp only [ho, List.map_toArray, List.map_cons, List.map_nil, hx, Sem.run_bind, Sem.run_pure, Result.andThen_ok, hr]
  exact hK _ _ h
theorem qat_new (w : World) (n : Nat) (hn : n ≤ 4) : QAt w.heap.size w.heap.size (w.alloc (.cells (slA n) 80)) (.slice none 0 0) (.slice none 0 0) ⟨n, [], [], false, zeros⟩ := by
  have hc := heap_alloc_new w (.cells (slA n) 80)
  have hsz : z80.size = 260 := by simp [z80, length_ints, zeros]
  refine ⟨⟨_, hc⟩, ?_, ?_, ?_, ?_, ⟨fun j v hj => ?_, fun i => ?_⟩, rfl, World.ownsRow_nil _ _ _ _, World.ownsRow_nil _ _ _ _, fun x hx => (by simp at hx), fun x hx => (by simp at hx), fun g e => (by cases e), Nat.le_refl _, by simp, hn⟩
  · simp only [World.cell?, hc]
    simp [slA, hsz]
  · simp only [World.cell?, hc]
    simp [slA, z80]
  · simp only [World.cell?, hc]
    simp [slA, z80]
  · simp only [World.cell?, hc]
    simp [slA, z80]
  · simp only [World.cell?, hc]
    have : (slA n)[4 + j]? = some v := by
      unfold slA
      rw [Array.getElem?_setIfInBounds, if_neg (by omega)]
      unfold z80
      rw [Array.getElem?_append_right (by simp)]
      simpa using hj
    simpa using this
  · simp only [World.frozen?, hc]
    simp
def QNew (n : Int) (w : World) (r : Ending) (w' : World) : Prop :=
  ((n < 0 ∨ 4 < n) ∧ r = .returned (.tuple #[.pointer none, .int .i64 1]) ∧ w = w') ∨
  (∃ k : Nat, n = k ∧ k ≤ 4 ∧ r = .returned (.tuple #[.pointer (some ⟨w.heap.size, 0, none⟩), .int .i64 0]) ∧ QAt w.heap.size w.heap.size w' (.slice none 0 0) (.slice none 0 0) ⟨k, [], [], false, zeros⟩ ∧ Below w.heap.size w w')
theorem new15_any (n : Int) (w : World) : Calls Try.prog 23 #[.int .i64 n] w (QNew n w) := by
  by_cases h0 : n < 0
  · have d0 : decide (n < 0) = true := decide_eq_true h0
    have T := Lib.hid (show QNew n w (.returned (.tuple #[.pointer none, .int .i64 1])) w from .inl ⟨.inl h0, rfl, rfl⟩)
    clear h0
    go_enter Try.func23, Try.ntmps23
    go_wp2_with fail
    go_ret2
    exact T.out
  have d0 : decide (n < 0) = false := decide_eq_false h0
  by_cases h1 : 4 < n
  · have d1 : decide (4 < n) = true := decide_eq_true h1
    have T := Lib.hid (show QNew n w (.returned (.tuple #[.pointer none, .int .i64 1])) w from .inl ⟨.inr h1, rfl, rfl⟩)
    clear h0 h1
    go_enter Try.func23, Try.ntmps23
    go_wp2_with fail
    go_ret2
    exact T.out
  have d1 : decide (4 < n) = false := decide_eq_false h1
  obtain ⟨k, rfl⟩ := Int.eq_ofNat_of_zero_le (show 0 ≤ n by omega)
  have T := Lib.hid (show QNew k w (.returned (.tuple #[.pointer (some ⟨w.heap.size, 0, none⟩), .int .i64 0])) (w.alloc (.cells (slA k) 80)) from .inr ⟨k, rfl, by omega, rfl, qat_new w k (by omega), (Below.refl _ _).alloc (Nat.le_refl _) _⟩)
  clear h0 h1
  go_enter Try.func23, Try.ntmps23
  go_upto_region 3 with fail
  go_wp2_with (with_reducible refine wpList_build_sl rfl (.tmp 10) (by rfl) k ?nx_1 ?_)
  (try case nx_1 => rfl)
  go_ret2
  exact T.out
end Go.Proofs.Ytlkfhobacgnckaa

