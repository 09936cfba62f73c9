
/-
  Package retire, and staithelaw20.all: rows of clocks.
-/
import Derived.Test.YtcfkokjfhjdbfaaLarge
import Derived.Test.YtcfkokjfhjdbfaaRefC
namespace Go.Proofs.Ytcfkokjfhjdbfaa
open Go.RowKit
set_option linter.unusedVariables false
set_option linter.unusedSimpArgs false
set_option maxRecDepth 100000

/-- Where one block of another kind has turned, a family of clocks stands. -/
theorem Fam.beside {B : Nat} {w w' : World} {F : Nat → Option Ck} {g : Nat} {cur : Array Value} {e : TypeId} {fz : Nat × Nat} (h : Fam B w F) (hg : w.heap[g]? = some (.cells cur e fz)) (h1 : e ≠ 60) (h2 : e ≠ 3) (ht : ∀ i, i < w.heap.size → i ≠ g → w'.heap[i]? = w.heap[i]?) : Fam B w' F := by
  refine ⟨fun b k hF => ?_, h.apart, h.low⟩
  have hc := h.here b k hF
  refine hc.frame fun i hi hh => ht i hi ?_
  rintro rfl
  rcases hh with rfl | ⟨hp, rfl⟩
  · obtain ⟨ao, cap, hb, _⟩ := hc
    rw [hb] at hg
    have := Option.some.inj hg
    injection this with e1 e2
    exact h1 e2.symm
  · obtain ⟨_, _, _, _, _, hx⟩ := hc
    obtain ⟨_, cur', hb, _⟩ := hx hp
    rw [hb] at hg
    have := Option.some.inj hg
    injection this with e1 e2
    exact h2 e2.symm

/-- Pointers to these blocks. -/
def ptrs (l : List Nat) : List Value := l.map fun b => Value.pointer (some ⟨b, 0, none⟩)
theorem length_ptrs (l : List Nat) : (ptrs l).length = l.length := by simp [ptrs]

end Go.Proofs.Ytcfkokjfhjdbfaa

