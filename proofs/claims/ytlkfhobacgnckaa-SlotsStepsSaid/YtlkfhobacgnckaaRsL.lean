
/-
  staithelaw15: looks: what it stands on.
-/
import Derived.Test.YtlkfhobacgnckaaRsK
namespace Go.Proofs.Ytlkfhobacgnckaa
open Go.RowKit
set_option linter.unusedVariables false
set_option linter.unusedSimpArgs false
set_option maxRecDepth 100000

theorem same_no (w : World) (m : List Int) (hm : m.length = 256) (Z : Array Value) (hZ : (ints m ++ [Value.bool false]).toArray = Z) : Calls Try.prog 26 #[.pointer none, .agg Z] w (RetB (.bool true) w) := by
  have B0 := Lib.hid ((Below.refl w.heap.size w).alloc (Nat.le_refl _) (.cells Z 60))
  have A0 := Lt.new w (ints m ++ [Value.bool false]) 60 hZ
  have zs : Z.size = 257 := by rw [← hZ]; simp [length_ints, hm]
  have c5 := A0.lg.range 256 (.bool false) (by rw [List.getElem?_append_right (by rw [length_ints, hm]; exact Nat.le_refl _), length_ints, hm]; rfl)
  rw [Nat.zero_add] at c5
  clear A0 hZ
  go_enter Try.func26, Try.ntmps26
  go_wp2_with fail
  go_ret
  exact ⟨rfl, B0.out⟩
theorem PtO.of {F : Nat → Option Ck} {K : List Nat} {p : Option Addr} {o : Option (List Int)} (h : Fetched F K p o) : PtO F (.pointer p) o := by
  cases o with
  | none =>
    obtain rfl : p = none := h
    rfl
  | some l =>
    obtain ⟨x, rfl, hx, _⟩ : ∃ x, p = some ⟨x, 0, none⟩ ∧ Has F x l ∧ x ∉ K := h
    exact ⟨x, rfl, hx⟩
theorem OptE.some {o p : Option (List Int)} (h : OptE o p) : o.isSome = p.isSome := by
  cases o <;> cases p <;> first | rfl | exact h.elim
theorem Lt.keepT {w w' : World} {b : Nat} {t : TypeId} {cs : List Value} (h : Lt w b t cs) (hk : KeepT t w w') : Lt w' b t cs := by
  obtain ⟨cur, hc⟩ := h.ty
  exact h.block (hk b cur _ hc)
/-- The load of a fetched struct, its making, as defs of one's own. -/
def ld60 (v : Value) := Instr.loadAt 60 v
theorem exec_ld60 (d : Option Tmp) (x : Operand) (ty : TypeId) (pos : String) (after : Array Edge) (gd : Option (Nat × Bool)) (ρ : Operand → Value) : execOp ρ (Oper.mk d (.load 60 x) ty pos after gd) = (do pure (.value (← ld60 (ρ x)))) := rfl
theorem run_ld60 (b : Nat) (cs : List Value) (hl : cs.length = 257) (Z : Array Value) (hZ : cs.toArray = Z) (w : World) (h : w.rangeAt b 0 cs) : (ld60 (.pointer (some ⟨b, 0, none⟩))).run Try.prog w = .ok (.agg Z) w := by
  subst hZ
  exact run_loadAt_mid w b 0 60 cs _ h Try.underlying60 rfl (by rw [fsize, hl])
def bd60 (x y : Value) := Instr.build 60 #[(0, x), (1, y)]
theorem exec_bd60 (d : Option Tmp) (x y : Operand) (ty : TypeId) (pos : String) (after : Array Edge) (gd : Option (Nat × Bool)) (ρ : Operand → Value) : execOp ρ (Oper.mk d (.build 60 #[(0, x), (1, y)]) ty pos after gd) = (do pure (.value (← bd60 (ρ x) (ρ y)))) := by
  simp [execOp, bd60]
theorem run_bd60 (Z : Array Value) (hZ : Z.size = 256) (x : Bool) (w : World) : (bd60 (.agg Z) (.bool x)).run Try.prog w = .ok (.agg (Z.push (.bool x))) w := run_build_fet Z hZ x w
/-- What no call of both touches: the old blocks. -/
def KB (B : Nat) (w w' : World) : Prop := ∀ w0 : World, B ≤ w0.heap.size → Below B w0 w → Below B w0 w'
theorem KB.trans {B : Nat} {a b c : World} (h : KB B a b) (k : KB B b c) : KB B a c := fun w0 hw hb => k w0 hw (h w0 hw hb)
theorem KB.below {B : Nat} {w w' : World} (hB : B ≤ w.heap.size) (h : Below w.heap.size w w') : KB B w w' := fun w0 hw hb => below_trans hb h hB
end Go.Proofs.Ytlkfhobacgnckaa

