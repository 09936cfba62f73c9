
/-
  Package epoch's Pack (out of XEpoch, for programs that reach no more of it), and the clock's Epoch.
-/
import Derived.Test.YtlkfhobacgnckaaFam
import Derived.WalkKit
import Derived.WalkSpells
import Derived.KernelRfl
import Derived.Lib.Hide
import Derived.Deep.RegionWith
import Derived.Laws.BitsLemmas
namespace Go.Proofs.Ytlkfhobacgnckaa
open Go.RowKit
set_option linter.unusedVariables false
set_option linter.unusedSimpArgs false


/-- Are these a tid and its clock? -/
def okT (t c : Int) : Bool := decide (0 ≤ t ∧ t < 256 ∧ 1 ≤ c ∧ c ≤ 1048576)
/-- A tid's clock as one number. -/
def ep (t c : Int) : Int := (t + 1) * 4294967296 + c
def okE (e : Int) : Bool := decide (1 ≤ e / 4294967296 ∧ e / 4294967296 ≤ 256 ∧ 1 ≤ e % 4294967296 ∧ e % 4294967296 ≤ 1048576)

def tB (n : Int) : Bool := decide (0 ≤ n ∧ n < 256)
def cB (n : Int) : Bool := decide (1 ≤ n ∧ n ≤ 1048576)

theorem u64_or_ep (t c : Int) (a : 0 ≤ t) (b : t < 256) (d : 1 ≤ c) (e : c ≤ 1048576) : bits .or .u64 ((t + 1) * 4294967296) c = ep t c := by
  have hk : ∀ n : Int, 0 ≤ n → n < 2 ^ 64 → IntKind.u64.wrap n = n := by
    intro n a b
    simp [IntKind.wrap, IntKind.bits, IntKind.signed]; omega
  exact bits_join .u64 64 (by decide) hk 32 ((t + 1) * 4294967296) c (by omega) (by omega) (by omega) (by omega) (by omega) (by omega)

def packV (t c : Int) : Int := if okT t c then ep t c else 0
def packE (t c : Int) : Int := if okT t c then 0 else 1
theorem packV_bd (t c : Int) : 0 ≤ packV t c ∧ packV t c < 18446744073709551616 := by
  unfold packV
  split
  · rename_i h
    obtain ⟨a, b, d, e⟩ := of_decide_eq_true h
    unfold ep; omega
  · omega
end Go.Proofs.Ytlkfhobacgnckaa

