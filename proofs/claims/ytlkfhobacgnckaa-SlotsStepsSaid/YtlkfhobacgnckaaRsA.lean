
/-
  staitheref15: long values (clocks of 256 numbers, what is fetched: 257 cells) in and out of places; slots of the reference in memory.
-/
import Derived.Test.YtlkfhobacgnckaaSlJ
import Derived.Test.YtlkfhobacgnckaaRefS
import Derived.Deep.MidRow
import Derived.Deep.RegionHeld3
import Derived.Deep.DeepCutAuto
import Derived.Deep.QuietTactic
namespace Go.Proofs.Ytlkfhobacgnckaa
open Go.RowKit
set_option linter.unusedVariables false
set_option linter.unusedSimpArgs false
set_option maxRecDepth 100000

/-! ### Long values -/
/-- These cells lie here, and may be written. -/
structure Lg (w : World) (b o : Nat) (cs : List Value) : Prop where
  range : w.rangeAt b o cs
  fz : ∀ i, w.frozen? ⟨b, i, none⟩ = false
theorem Lg.cell {w : World} {b o : Nat} {cs : List Value} (h : Lg w b o cs) (j : Nat) (hj : j < cs.length) : w.cell? ⟨b, o + j, none⟩ = some (cs[j]) := h.range j _ (List.getElem?_eq_getElem hj)
theorem Lg.lt {w : World} {b o : Nat} {cs : List Value} (h : Lg w b o cs) (hp : 0 < cs.length) : b < w.heap.size := block_lt_of_cell (h.cell 0 hp)
theorem Lg.block {w w' : World} {b o : Nat} {cs : List Value} (h : Lg w b o cs) (hb : w'.heap[b]? = w.heap[b]?) : Lg w' b o cs :=
  ⟨fun j v hj => (World.cell?_of_block (a := ⟨b, o + j, none⟩) hb).trans (h.range j v hj), fun i => (World.frozen?_of_block (a := ⟨b, i, none⟩) hb).trans (h.fz i)⟩
theorem Lg.below {w w' : World} {b o : Nat} {cs : List Value} (h : Lg w b o cs) (hp : 0 < cs.length) {n : Nat} (hn : w.heap.size ≤ n) (hB : Below n w w') : Lg w' b o cs := h.block (hB.block b (Nat.lt_of_lt_of_le (h.lt hp) hn))
theorem Lg.new (w : World) (cs : List Value) (t : TypeId) {Z : Array Value} (hZ : cs.toArray = Z) : Lg (w.alloc (.cells Z t)) w.heap.size 0 cs := by
  subst hZ
  have h := heap_alloc_new w (.cells cs.toArray t)
  refine ⟨fun j v hj => ?_, fun i => ?_⟩
  · simp only [World.cell?, h, Nat.zero_add]
    simpa using hj
  · simp only [World.frozen?, h]
    simp
theorem Lg.part {w : World} {b o : Nat} {cs ds es : List Value} (h : Lg w b o (cs ++ ds ++ es)) : Lg w b (o + cs.length) ds :=
  ⟨fun j v hj => by
    have hl : j < ds.length := (List.getElem?_eq_some_iff.1 hj).1
    have := h.range (cs.length + j) v (by rw [List.append_assoc, List.getElem?_append_right (by omega), show cs.length + j - cs.length = j by omega, List.getElem?_append_left hl]; exact hj)
    rwa [← Nat.add_assoc] at this, h.fz⟩
theorem only_setCells {b o n : Nat} : ∀ (vs : List Value) (t : Nat) (w : World), t + vs.length ≤ n → Only b o n w (w.setCells b (o + t) vs)
  | [], _, w, _ => Only.refl _ _ _ _
  | v :: vs, t, w, h => by
    rw [World.setCells]
    have h1 := Only.of_set (b := b) (o := o) (n := n) (t := t) (w := w) v (by simp at h; omega)
    have h2 := only_setCells (b := b) (o := o) (n := n) vs (t + 1) (w.setCell ⟨b, o + t, none⟩ v) (by simp at h; omega)
    rw [← Nat.add_assoc] at h2
    exact h1.trans h2
theorem Only.turned {b o n : Nat} {w w' : World} (h : Only b o n w w') : Turned (fun i => i = b) w w' := ⟨h.os, h.tape, h.output, h.size, fun i hi hne => h.block i hi hne⟩
/-- A long value out of its place. -/
theorem wpList_load_lg {ops : Array Oper} {rest : List Oper} {op : Oper} {a : Act} {w : World} {Q : Exit → Act → World → Prop} (hgd : op.guard = none) (ty : TypeId) (x : Operand) (ho : op.op = .load ty x)
    (b o : Nat) (hx : a.eval x = .pointer (some ⟨b, o, none⟩)) (cs : List Value) (d : TypeDesc) (Z : Array Value) (hZ : cs.toArray = Z) (hr : Lg w b o cs)
    (hu : Try.prog.underlying ty = some d) (hd : d.isRow = true) (hi : (Try.prog.info? ty).map (·.size) = some cs.length)
    (h : wpList Try.prog ops Q rest (a.put op.dst (.agg Z)) w) : wpList Try.prog ops Q (op :: rest) a w := by
  subst hZ
  exact wpList_load_mid hgd ty x ho b o hx cs d hr.range hu hd hi h
/-- A long value into its place. -/
theorem wpList_store_lg {ops : Array Oper} {rest : List Oper} {op : Oper} {a : Act} {w : World} {Q : Exit → Act → World → Prop} (hgd : op.guard = none) (ty : TypeId) (x y : Operand) (ho : op.op = .store ty x y)
    (b o : Nat) (hx : a.eval x = .pointer (some ⟨b, o, none⟩)) (cs old : List Value) (Z : Array Value) (hy : a.eval y = .agg Z) (hZ : cs.toArray = Z) (hr : Lg w b o old) (hl : old.length = cs.length)
    (hi : (Try.prog.info? ty).map (·.size) = some cs.length) (h1 : ∀ u ∈ cs, u.oneCell' = true)
    (h : ∀ w', Lg w' b o cs → Only b o cs.length w w' → wpList Try.prog ops Q rest (a.put op.dst undef) w') : wpList Try.prog ops Q (op :: rest) a w := by
  subst hZ
  have ht : w.there b o cs.length := fun j hj => ⟨by rw [hr.cell j (by omega)]; rfl, hr.fz (o + j)⟩
  refine wpList_store_mid hgd ty x y ho b o cs.toArray hx hy (by simpa using ht) (by simpa using hi) (all_oneCell_toArray h1) ?_
  refine h _ ⟨?_, fun i => by rw [World.frozen?_setCells]; exact hr.fz i⟩ ?_
  · simpa using World.rangeAt_setCells_same w b o cs ht
  · have := only_setCells (b := b) (o := o) (n := cs.length) cs 0 w (by omega)
    simpa using this

/-! ### What is fetched -/
def fz0 : List Value := ints zeros ++ [Value.bool false]
def fetC : Option (List Int) → List Value
  | none => fz0
  | some l => ints l ++ [Value.bool true]
theorem finfo : (Try.prog.info? 60).map (fun i => (i.zero, i.size)) = some (some (.agg fz0.toArray), 257) := by kernel_rfl
theorem fsize : (Try.prog.info? 60).map (·.size) = some 257 := (zero_of_info finfo).2
theorem fetC_len {o : Option (List Int)} (h : ∀ l, o = some l → l.length = 256) : (fetC o).length = 257 := by
  cases o with
  | none => simp [fetC, fz0, length_ints, zeros]
  | some l => simp [fetC, length_ints, h l rfl]
theorem fetC_one (o : Option (List Int)) : ∀ u ∈ fetC o, u.oneCell' = true := by
  intro u hu
  cases o with
  | none =>
    simp only [fetC, fz0, List.mem_append, List.mem_singleton] at hu
    rcases hu with hu | rfl
    · exact ints1 _ u hu
    · rfl
  | some l =>
    simp only [fetC, List.mem_append, List.mem_singleton] at hu
    rcases hu with hu | rfl
    · exact ints1 _ u hu
    · rfl

/-! ### Slots of the reference -/
structure Rf where
  size : Nat
  S : List (List Int)
  R : List (List Int)
  cl : Bool
  cg : List Int
def flatV (l : List (List Int)) : List Value := ints l.flatten
structure QAt (B q : Nat) (w : World) (vS vR : Value) (Q : Rf) : Prop where
  ty : ∃ cur, w.heap[q]? = some (.cells cur 80 (0, 0))
  c0 : w.cell? ⟨q, 0, none⟩ = some (.int .i64 Q.size)
  c1 : w.cell? ⟨q, 1, none⟩ = some vS
  c2 : w.cell? ⟨q, 2, none⟩ = some vR
  c3 : w.cell? ⟨q, 3, none⟩ = some (.bool Q.cl)
  cg : Lg w q 4 (ints Q.cg)
  lg : Q.cg.length = 256
  rowS : w.ownsRow B 56 256 vS Q.S.length (flatV Q.S)
  rowR : w.ownsRow B 56 256 vR Q.R.length (flatV Q.R)
  lS : ∀ x ∈ Q.S, x.length = 256
  lR : ∀ x ∈ Q.R, x.length = 256
  apart : ∀ g, vS.ownBlock = some g → vR.ownBlock ≠ some g
  low : B ≤ q
  bw : B ≤ w.heap.size
  sz : Q.size ≤ 4
theorem QAt.fz {B q : Nat} {w : World} {vS vR : Value} {Q : Rf} (h : QAt B q w vS vR Q) (i : Nat) : w.frozen? ⟨q, i, none⟩ = false := by
  obtain ⟨cur, hc⟩ := h.ty
  simp [World.frozen?, hc]
theorem QAt.keep {B q : Nat} {w w' : World} {vS vR : Value} {Q : Rf} (h : QAt B q w vS vR Q) (h1 : KeepT 80 w w') (h2 : KeepT 56 w w') (hs : w.heap.size ≤ w'.heap.size) : QAt B q w' vS vR Q := by
  obtain ⟨cur, hc⟩ := h.ty
  have hb := h1 q cur _ hc
  have f : ∀ i, w'.cell? ⟨q, i, none⟩ = w.cell? ⟨q, i, none⟩ := fun i => World.cell?_of_block (a := ⟨q, i, none⟩) hb
  exact ⟨⟨cur, hb.trans hc⟩, (f 0).trans h.c0, (f 1).trans h.c1, (f 2).trans h.c2, (f 3).trans h.c3, h.cg.block hb, h.lg, ownsRow_keep h.rowS h2, ownsRow_keep h.rowR h2, h.lS, h.lR, h.apart, h.low, Nat.le_trans h.bw hs, h.sz⟩
theorem QAt.below {B q : Nat} {w w' : World} {vS vR : Value} {Q : Rf} (h : QAt B q w vS vR Q) (hB : Below w.heap.size w w') : QAt B q w' vS vR Q :=
  h.keep (keepT_below hB) (keepT_below hB) hB.size
/-- One clock of a row. -/
theorem row_lg {w : World} {base : Nat} {v : Value} {l : List (List Int)} (h : w.ownsRow base 56 256 v l.length (flatV l)) (hl : ∀ x ∈ l, x.length = 256) (k : Nat) (hk : k < l.length) :
    ∃ g cap, v = .slice (some ⟨g, 0, none⟩) l.length cap ∧ Lg w g (k * 256) (ints (l.getD k [])) := by
  rcases h.2 with ⟨rfl, h0⟩ | ⟨g, cap, cur, rfl, hb, hg, hnc, hcm, hcs, htake⟩
  · omega
  · refine ⟨g, cap, rfl, fun j u hj => ?_, fun i => by simp [World.frozen?, hg]⟩
    have hm : l.getD k [] ∈ l := by rw [List.getD_eq_getElem?_getD, List.getElem?_eq_getElem hk]; exact List.getElem_mem _
    have hj2 : j < 256 := by
      have := (List.getElem?_eq_some_iff.1 hj).1
      rw [length_ints, hl _ hm] at this
      exact this
    have hf := flat_at l hl k j hk hj2
    have hx : (flatV l)[k * 256 + j]? = some u := by
      unfold flatV ints
      rw [List.getElem?_map, hf, ← List.getElem?_map]
      exact hj
    have := h.cells (g := g) rfl (k * 256 + j) u hx
    rw [show (⟨g, 0, none⟩ : Addr).add (k * 256 + j) = ⟨g, k * 256 + j, none⟩ from by unfold Addr.add; split <;> simp_all] at this
    exact this
def Rf.peek (Q : Rf) (send : Bool) : Option (List Int) :=
  if send then (if 0 < Q.size ∧ Q.size ≤ Q.S.length ∧ Q.S.length - Q.size < Q.R.length then some (Q.R.getD (Q.S.length - Q.size) []) else none) else (if Q.R.length < Q.S.length then some (Q.S.getD Q.R.length []) else none)
theorem Rf.peek_len {Q : Rf} (hS : ∀ x ∈ Q.S, x.length = 256) (hR : ∀ x ∈ Q.R, x.length = 256) (send : Bool) : ∀ l, Q.peek send = some l → l.length = 256 := by
  intro l hl
  unfold Rf.peek at hl
  have mem : ∀ {L : List (List Int)} {k : Nat}, k < L.length → L.getD k [] ∈ L := fun {L k} hk => by rw [List.getD_eq_getElem?_getD, List.getElem?_eq_getElem hk]; exact List.getElem_mem _
  split at hl
  · split at hl
    · rename_i h
      rw [← Option.some.inj hl]
      exact hR _ (mem (by omega))
    · cases hl
  · split at hl
    · rename_i h
      rw [← Option.some.inj hl]
      exact hS _ (mem (by omega))
    · cases hl
theorem results_cell1 {P : Program} {fn : Func} {t : Tmp} {ty : TypeId} (h : fn.results = #[.cell t ty]) (tmps : Array Value) (w : World) (ad : Addr) (v : Value) (ht : tmps.getD t undef = .pointer (some ad)) (hl : (loadVar ty ad).run P w = .ok v w) :
    (results fn tmps).run P w = .ok v w := by
  have ht' : tmps[t]?.getD undef = .pointer (some ad) := by simpa using ht
  simp [results, h, ht', asAddr, hl]
theorem load_fet {w : World} {b : Nat} {cs : List Value} {Z : Array Value} (h : Lg w b 0 cs) (hl : cs.length = 257) (hZ : cs.toArray = Z) : (loadVar 60 ⟨b, 0, none⟩).run Try.prog w = .ok (.agg Z) w := by
  subst hZ
  exact run_loadVar_mid (P := Try.prog) w b 0 60 cs _ h.range Try.underlying60 rfl (by rw [fsize, hl])
/-! ### Structs of a long and other parts, built -/
theorem foldl_set (off : Nat) : ∀ (l : List Value) (k : Nat) (c : Array Value), ∃ r : Array Value, (l.zipIdx k).foldl (fun cs (x, j) => cs.setIfInBounds (off + j) x) c = r ∧ r.size = c.size ∧
    ∀ i, r[i]? = if off + k ≤ i ∧ i < off + k + l.length ∧ i < c.size then l[i - off - k]? else c[i]?
  | [], k, c => ⟨c, rfl, rfl, fun i => by rw [if_neg (by simp; omega)]⟩
  | v :: l, k, c => by
    obtain ⟨r, h1, h2, h3⟩ := foldl_set off l (k + 1) (c.setIfInBounds (off + k) v)
    refine ⟨r, by rw [← h1]; rfl, by rw [h2]; simp, fun i => ?_⟩
    rw [h3 i]
    simp only [Array.size_setIfInBounds, List.length_cons, Array.getElem?_setIfInBounds]
    by_cases e : i = off + k
    · subst e
      by_cases hc : off + k < c.size
      · rw [if_neg (by omega), if_pos rfl, if_pos hc, if_pos (by omega)]
        simp
      · rw [if_neg (by omega), if_pos rfl, if_neg hc, if_neg (by omega), Array.getElem?_eq_none (by omega)]
    · rw [if_neg (show ¬ off + k = i by omega)]
      by_cases hc : off + (k + 1) ≤ i ∧ i < off + (k + 1) + l.length ∧ i < c.size
      · rw [if_pos hc, if_pos (by omega), show i - off - k = (i - off - (k + 1)) + 1 by omega, List.getElem?_cons_succ]
      · rw [if_neg hc, if_neg (by omega)]
theorem fill_step (place : Nat → Option (Nat × Nat)) (c : Array Value) (i : Nat) (v : Value) (off size : Nat) (rest : List (Nat × Value)) (hp : place i = some (off, size)) (hv : v.cells.size = size) (hc : off + size ≤ c.size) :
    Instr.fill place c ((i, v) :: rest) = Instr.fill place (v.cells.zipIdx.foldl (fun cs (x, j) => cs.setIfInBounds (off + j) x) c) rest := by
  conv => lhs; unfold Instr.fill
  rw [hp]
  simp only
  rw [if_neg]
  simp
  omega
theorem built_fet (parts : List (Nat × Value)) : Try.prog.built 60 parts = Instr.fill ((#[(0, 256), (256, 1)] : Array (Nat × Nat))[·]?) fz0.toArray parts := by kernel_rfl
theorem fz0_size : fz0.toArray.size = 257 := by simp [fz0, length_ints, zeros]
/-- A fetched struct, built. -/
theorem run_build_fet (Z : Array Value) (hZ : Z.size = 256) (x : Bool) (w : World) : (Instr.build 60 #[(0, .agg Z), (1, .bool x)]).run Try.prog w = .ok (.agg (Z.push (.bool x))) w := by
  refine run_build w _ _ _ ?_
  rw [built_fet]
  obtain ⟨r, h1, h2, h3⟩ := foldl_set 0 Z.toList 0 fz0.toArray
  obtain ⟨zf, hzf⟩ : ∃ x, fz0.toArray = x := ⟨_, rfl⟩
  have hs := fz0_size
  rw [hzf] at h1 h2 h3 hs ⊢
  have hr : r.setIfInBounds 256 (.bool x) = Z.push (.bool x) := by
    apply Array.ext_getElem?
    intro i
    have hzl : Z.toList.length = 256 := by simpa using hZ
    rw [Array.getElem?_setIfInBounds, Array.getElem?_push, h3 i]
    by_cases e : i = 256
    · subst e
      rw [if_pos rfl, if_pos (by omega), if_pos hZ.symm]
    · rw [if_neg (show ¬ 256 = i by omega), if_neg (show ¬ i = Z.size by omega)]
      by_cases hi : i < 256
      · rw [if_pos (by omega)]
        simp
      · rw [if_neg (by omega), Array.getElem?_eq_none (by omega), Array.getElem?_eq_none (by omega)]
  have h1' : (Z.zipIdx).foldl (fun cs (x, j) => cs.setIfInBounds (0 + j) x) zf = r := by
    rw [← h1, ← Array.foldl_toList, Array.toList_zipIdx]
  have s1 := fill_step ((#[(0, 256), (256, 1)] : Array (Nat × Nat))[·]?) zf 0 (.agg Z) 0 256 [(1, .bool x)] rfl hZ (by rw [hs]; decide)
  have s2 := fill_step ((#[(0, 256), (256, 1)] : Array (Nat × Nat))[·]?) r 1 (.bool x) 256 1 [] rfl rfl (by rw [h2, hs]; decide)
  show Instr.fill _ zf [(0, .agg Z), (1, .bool x)] = _
  rw [s1]
  show Instr.fill _ ((Z.zipIdx).foldl (fun cs (x, j) => cs.setIfInBounds (0 + j) x) zf) _ = _
  rw [h1', s2, ← hr]
  rfl
/-- The zero of it. -/
def fzA : Array Value := fz0.toArray
theorem fz_zero : ∀ w, (zeroValue 60).run Try.prog w = .ok (.agg fzA) w := (zero_of_info finfo).1
theorem run_build_fet0 (w : World) : (Instr.build 60 #[]).run Try.prog w = .ok (.agg fzA) w := by
  refine run_build w _ _ _ ?_
  rw [built_fet]
  rfl
theorem wpList_build_fet {ops : Array Oper} {rest : List Oper} {op : Oper} {a : Act} {w : World} {Q : Exit → Act → World → Prop} (hgd : op.guard = none) (x y : Operand) (ho : op.op = .build 60 #[(0, x), (1, y)])
    (Z : Array Value) (b : Bool) (hx : a.eval x = .agg Z) (hy : a.eval y = .bool b) (hZ : Z.size = 256)
    (h : wpList Try.prog ops Q rest (a.put op.dst (.agg (Z.push (.bool b)))) w) : wpList Try.prog ops Q (op :: rest) a w := by
  refine wpList_plain hgd fun K hK => ?_
  unfold Oper.wp execOp
  have hr := run_build_fet Z hZ b w
  simp only [ho, List.map_toArray, List.map_cons, List.map_nil, hx, hy, Sem.run_bind, Sem.run_pure, Result.andThen_ok, hr]
  exact hK _ _ h
theorem wpList_build_fet0 {ops : Array Oper} {rest : List Oper} {op : Oper} {a : Act} {w : World} {Q : Exit → Act → World → Prop} (hgd : op.guard = none) (ho : op.op = .build 60 #[])
    (h : wpList Try.prog ops Q rest (a.put op.dst (.agg fzA)) w) : wpList Try.prog ops Q (op :: rest) a w := by
  refine wpList_plain hgd fun K hK => ?_
  unfold Oper.wp execOp
  have hr := run_build_fet0 w
  simp only [ho, List.map_toArray, List.map_nil, Sem.run_bind, Sem.run_pure, Result.andThen_ok, hr]
  exact hK _ _ h
end Go.Proofs.Ytlkfhobacgnckaa

