
/-
  What the listed variables' condition gives the walks; a start that meets it.
-/
import Derived.Test.YtmmkdbcgkafolaaDoorRows
import Derived.Test.YtmmkdbcgkafolaaDoorEntA
import Derived.ProofKit
import Derived.LaidMore
import Derived.OpenShut
import Derived.Stop.Joined
import Derived.Lib.LaidU8
import Derived.KernelRfl
namespace Go.Proofs.YtmmkdbcgkafolaaDoor
open Go.RowKit
set_option linter.unusedVariables false
set_option linter.unusedSimpArgs false
set_option maxRecDepth 100000

def laidL : List (String × DataW Unit) := [("staithe/entry.none", Rows.laid_staithe_entry_none), ("staithe/entry.id", Rows.laid_staithe_entry_id), ("staithe/entry.maybe", Rows.laid_staithe_entry_maybe)]
theorem door_met (os : Os) (args : Array Value) : laidMetH Tryd.prog laidL ((World.doorLaid Tryd.prog 60 os).forCall (fun _ _ => 0) ⟨#[], args, []⟩).memory :=
  laidMetH_of_parts3 (fuel := 8) (laidMet_of_run' 8 (by kernel_rfl) (by kernel_rfl)) (by kernel_rfl) (by kernel_rfl)
theorem gn : Tryd.prog.globalNamed "staithe/entry.none" = some 1 := by kernel_rfl
theorem gi : Tryd.prog.globalNamed "staithe/entry.id" = some 0 := by kernel_rfl
theorem gm : Tryd.prog.globalNamed "staithe/entry.maybe" = some 2 := by kernel_rfl
theorem tn : (Tryd.prog.globals[1]?).map (·.type) = some 59 := by kernel_rfl
theorem ti : (Tryd.prog.globals[0]?).map (·.type) = some 59 := by kernel_rfl
theorem tm : (Tryd.prog.globals[2]?).map (·.type) = some 59 := by kernel_rfl
theorem cint : Tryd.prog.cellsOf 3 = 1 := by kernel_rfl
theorem cspan : Tryd.prog.cellsOf 59 = 2 := by kernel_rfl
theorem span_cells {W : World} {n : String} {g : Nat} {a b : Int} (hg : Tryd.prog.globalNamed n = some g) (ht : (Tryd.prog.globals[g]?).map (·.type) = some 59)
    (h : Lib.VarReads Tryd.prog W n (.agg [.lit (.int .i64 a), .lit (.int .i64 b)])) : W.cell? ⟨g, 0, none⟩ = some (.int .i64 a) ∧ W.cell? ⟨g, 1, none⟩ = some (.int .i64 b) := by
  obtain ⟨g', t, cs, fuel, p, hg', hty, hvar, hd⟩ := h
  obtain rfl := Option.some.inj (hg.symm.trans hg')
  obtain rfl := Option.some.inj (ht.symm.trans hty)
  have hcs := Lib.ints_of_struct (k := .i64) (zs := [a, b]) Tryd.underlying59 (fun j f hj => by
    match j, hj with
    | 0, hj => simp at hj; subst hj; exact ⟨Tryd.underlying3, rfl, cint⟩
    | 1, hj => simp at hj; subst hj; exact ⟨Tryd.underlying3, rfl, cint⟩
    | j + 2, hj => simp at hj) (by rw [cspan]; rfl) hd
  refine ⟨?_, ?_⟩
  · rw [World.var?_cell hg hvar 0, ← Array.getElem?_toList, hcs]; rfl
  · rw [World.var?_cell hg hvar 1, ← Array.getElem?_toList, hcs]; rfl
theorem glob_of_laid {W : World} (h : laidMetH Tryd.prog laidL W) : Glob W := by
  rw [MakeChecks.laidMetH_plain _ _ _ (by kernel_rfl)] at h
  obtain ⟨n0, n1⟩ := span_cells gn tn (Lib.laidMet.reads h (n := "staithe/entry.none") (by simp [laidL]; rfl))
  obtain ⟨i0, i1⟩ := span_cells gi ti (Lib.laidMet.reads h (n := "staithe/entry.id") (by simp [laidL]; rfl))
  obtain ⟨m0, m1⟩ := span_cells gm tm (Lib.laidMet.reads h (n := "staithe/entry.maybe") (by simp [laidL]; rfl))
  exact ⟨n0, n1, i0, i1, m0, m1⟩
end Go.Proofs.YtmmkdbcgkafolaaDoor

