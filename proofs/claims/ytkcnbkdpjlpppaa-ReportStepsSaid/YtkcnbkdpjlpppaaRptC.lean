
/-
  Package report: the map of races, as a partial function on numbers.
-/
import Derived.Test.YtkcnbkdpjlpppaaRptB
import Derived.Maps.Own
import Derived.Maps.OwnSet
import Derived.Maps.OwnOps
import Derived.Maps.Views
namespace Go.Proofs.Ytkcnbkdpjlpppaa
open Go.RowKit
set_option linter.unusedVariables false
set_option linter.unusedSimpArgs false
set_option maxRecDepth 100000

/-- A race. -/
structure Rce where
  cell : Int
  a : Int
  b : Int
  f : Int
  wr : Bool
def rcV (r : Rce) : Value := .agg #[.int .i64 r.cell, .int .i64 r.a, .int .i64 r.b, .int .i64 r.f, .bool r.wr]
def rcD (r : Rce) : DataW Unit := .agg [.lit (.int .i64 r.cell), .lit (.int .i64 r.a), .lit (.int .i64 r.b), .lit (.int .i64 r.f), .lit (.bool r.wr)]
theorem rcV_inj {r s : Rce} (h : rcV r = rcV s) : r = s := by
  obtain ⟨a, b, c, d, e⟩ := r
  obtain ⟨a', b', c', d', e'⟩ := s
  simp [rcV] at h
  obtain ⟨rfl, rfl, rfl, rfl, rfl⟩ := h
  rfl
theorem rcD_inj {r s : Rce} (h : rcD r = rcD s) : r = s := by
  obtain ⟨a, b, c, d, e⟩ := r
  obtain ⟨a', b', c', d', e'⟩ := s
  simp [rcD] at h
  obtain ⟨rfl, rfl, rfl, rfl, rfl⟩ := h
  rfl
open Classical in
noncomputable def rcR (v : Value) : Option (DataW Unit × List MemPlace) := if h : ∃ r, v = rcV r then some (rcD (Classical.choose h), []) else none
theorem rcR_mk (r : Rce) : rcR (rcV r) = some (rcD r, []) := by
  have h : ∃ s, rcV r = rcV s := ⟨r, rfl⟩
  unfold rcR
  rw [dif_pos h, ← rcV_inj (Classical.choose_spec h)]
theorem rcR_inv {v : Value} {z : DataW Unit × List MemPlace} (h : rcR v = some z) : ∃ r, v = rcV r ∧ z = (rcD r, []) := by
  by_cases hh : ∃ r, v = rcV r
  · obtain ⟨r, rfl⟩ := hh
    rw [rcR_mk] at h
    exact ⟨r, rfl, (Option.some.inj h).symm⟩
  · unfold rcR at h
    rw [dif_neg hh] at h
    cases h
def rce0 : Rce := ⟨0, 0, 0, 0, false⟩
theorem rce0_v : rcV rce0 = race0 := rfl
def kI (c : Int) : Lit := .int .i64 c
/-- Block b is a map of at most n entries that holds what M says. -/
def RMap (w : World) (b n : Nat) (M : Int → Option Rce) : Prop :=
  ∃ D : DataW Unit, w.ownsMap Try.prog 3 rcR b n D ∧ ∀ c, (kI c).wf = true → D.atKey (kI c) (rcD rce0) = rcD ((M c).getD rce0) ∧ Maps.has D (kI c) = (M c).isSome
theorem rmap_made (w : World) : RMap (w.alloc (.map #[] 0)) w.heap.size 0 (fun _ => none) := ⟨_, World.ownsMap_made w _ _ _, fun c hc => ⟨rfl, rfl⟩⟩
theorem RMap.kept {w w' : World} {b n : Nat} {M : Int → Option Rce} (h : RMap w b n M) (he : w'.heap[b]? = w.heap[b]?) : RMap w' b n M := by
  obtain ⟨D, ⟨es, clock, hb, F, hs, hD⟩, h2⟩ := h
  exact ⟨D, ⟨es, clock, he.trans hb, F, hs, hD⟩, h2⟩
theorem RMap.lt {w : World} {b n : Nat} {M : Int → Option Rce} (h : RMap w b n M) : b < w.heap.size := by
  obtain ⟨D, ⟨es, clock, hb, _⟩, _⟩ := h
  exact lt_of_heap hb
def putM (M : Int → Option Rce) (c : Int) (r : Rce) : Int → Option Rce := fun d => if d = c then some r else M d
theorem kI_wf {c : Int} (h0 : 0 ≤ c) (h1 : c < 8) : (kI c).wf = true := by
  unfold kI
  simp [Lit.wf, IntKind.min, IntKind.max, IntKind.bits, IntKind.signed]
  omega
theorem wpList_put_race {ops : Array Oper} {rest : List Oper} {o : Oper} {a : Act} {Q : Exit → Act → World → Prop} (w : World) (hg : o.guard = none) (m x v : Operand) (hop : o.op = Op.mapUpdate 79 m x v)
    {b n : Nat} {M : Int → Option Rce} (hm : a.eval m = .map (some b)) (h : RMap w b n M) (hn : n < maxLen) (c : Int) (hc : (kI c).wf = true) (r : Rce) (hx : a.eval x = .int .i64 c) (hv : a.eval v = rcV r)
    (hK : ∀ w', RMap w' b (n + 1) (putM M c r) → w.grownBy w' (some b) → wpList Try.prog ops Q rest (a.put o.dst undef) w') : wpList Try.prog ops Q (o :: rest) a w := by
  obtain ⟨D, h1, h2⟩ := h
  have hkey := Maps.keyOf_int_mk (P := Try.prog) (k := 3) Try.underlying3 (a := c) hc
  refine wpList_mapUpdate_own w hg m x v _ hop 3 38 (Maps.int_keyed Try.underlying3) Try.underlying79 rcR b n D hm h1 hn _ _ (kI c) hx hv hkey (rcD r) [] (rcR_mk r) ?_
  intro w' g1 g2
  have hM : Maps.IsMap D := by
    obtain ⟨es, clock, _, _, _, hD⟩ := h1
    exact ⟨_, hD⟩
  have hkl : WideAt.IsKeyLit (kI c) := by unfold WideAt.IsKeyLit kI; simp
  refine hK w' ⟨_, g1, fun d hd => ?_⟩ g2
  unfold putM
  by_cases hdc : d = c
  · subst hdc
    rw [if_pos rfl]
    exact ⟨Maps.atKey_put_same hM hkl _ _, Maps.has_put_same hM hkl _⟩
  · rw [if_neg hdc]
    have hne : kI d ≠ kI c := fun e => hdc (by injection e)
    rw [Maps.atKey_put_other hne, Maps.has_put_other hne]
    exact h2 d hd
theorem wpList_look_race {ops : Array Oper} {rest : List Oper} {o : Oper} {a : Act} {Q : Exit → Act → World → Prop} (w : World) (hg : o.guard = none) (m x : Operand) (hop : o.op = Op.lookup 79 m x true)
    {b n : Nat} {M : Int → Option Rce} (hm : a.eval m = .map (some b)) (h : RMap w b n M) (c : Int) (hc : (kI c).wf = true) (hx : a.eval x = .int .i64 c)
    (hK : wpList Try.prog ops Q rest (a.put o.dst (.tuple #[rcV ((M c).getD rce0), .bool (M c).isSome])) w) : wpList Try.prog ops Q (o :: rest) a w := by
  obtain ⟨D, h1, h2⟩ := h
  have hkey := Maps.keyOf_int_mk (P := Try.prog) (k := 3) Try.underlying3 (a := c) hc
  refine wpList_lookup_own_ok w hg m x _ hop 3 38 (Maps.int_keyed Try.underlying3) Try.underlying79 rcR (z := rcV rce0) (by kernel_rfl) (rcD rce0) [] (rcR_mk rce0) b n D hm h1 _ (kI c) hx hkey ?_
  intro v ps hv
  rw [(h2 c hc).1] at hv
  rw [(h2 c hc).2]
  obtain ⟨r, rfl, e⟩ := rcR_inv hv
  have e2 := rcD_inj (Prod.mk.inj e).1
  rw [← e2]
  exact hK
theorem RMap.look {w : World} {b n : Nat} {M : Int → Option Rce} (h : RMap w b n M) (c : Int) (hc : (kI c).wf = true) : (Instr.lookup 79 (.map (some b)) (.int .i64 c) true).run Try.prog w = .ok (.tuple #[rcV ((M c).getD rce0), .bool (M c).isSome]) w := by
  obtain ⟨D, h1, h2⟩ := h
  have hkey := Maps.keyOf_int_mk (P := Try.prog) (k := 3) Try.underlying3 (a := c) hc
  obtain ⟨v, ps, hrun, hv⟩ := h1.look_ok (z := rcV rce0) (t := 79) (e := 38) (Maps.int_keyed Try.underlying3) Try.underlying79 (by kernel_rfl) (rcR_mk rce0) hkey
  have h2c := h2 c hc
  unfold kI at h2c
  rw [h2c.1] at hv
  rw [h2c.2] at hrun
  obtain ⟨r, rfl, e⟩ := rcR_inv hv
  rw [rcD_inj (Prod.mk.inj e).1]
  exact hrun
theorem RMap.put {w : World} {b n : Nat} {M : Int → Option Rce} (h : RMap w b n M) (hn : n < maxLen) (c : Int) (hc : (kI c).wf = true) (r : Rce) : ∃ w', (Instr.mapUpdate 79 (.map (some b)) (.int .i64 c) (rcV r)).run Try.prog w = .ok () w' ∧ RMap w' b (n + 1) (putM M c r) ∧ w.grownBy w' (some b) := by
  obtain ⟨D, h1, h2⟩ := h
  have hkey := Maps.keyOf_int_mk (P := Try.prog) (k := 3) Try.underlying3 (a := c) hc
  have hM : Maps.IsMap D := by
    obtain ⟨es, clock, _, _, _, hD⟩ := h1
    exact ⟨_, hD⟩
  have hkl : WideAt.IsKeyLit (kI c) := by unfold WideAt.IsKeyLit kI; simp
  obtain ⟨w', hrun, g1, g2⟩ := h1.update (t := 79) (e := 38) (Maps.int_keyed Try.underlying3) Try.underlying79 hn hkey (rcR_mk r)
  refine ⟨w', hrun, ⟨_, g1, fun d hd => ?_⟩, g2⟩
  unfold putM
  by_cases hdc : d = c
  · subst hdc
    rw [if_pos rfl]
    exact ⟨Maps.atKey_put_same hM hkl _ _, Maps.has_put_same hM hkl _⟩
  · rw [if_neg hdc]
    have hne : kI d ≠ kI c := fun e => hdc (by injection e)
    exact ⟨(Maps.atKey_put_other hne _ _).trans (h2 d hd).1, (Maps.has_put_other hne _).trans (h2 d hd).2⟩
end Go.Proofs.Ytkcnbkdpjlpppaa

