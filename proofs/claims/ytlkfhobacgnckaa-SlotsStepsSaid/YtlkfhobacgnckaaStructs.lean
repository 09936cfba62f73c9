
/-
  A slice of structs whose fields are one cell each, opened at every place and field.
-/
import Derived.Test.YtlkfhobacgnckaaProg
import Derived.Deep.Fields
import Derived.ChangeSlices
import Derived.OpenShut
import Derived.WideShapes
namespace Go.Proofs.Ytlkfhobacgnckaa
open Go.ChangeShapes Go.WideShapes Go.Deep
set_option linter.unusedVariables false
set_option linter.unusedSimpArgs false

theorem open_structs {H : Type} {enc : TypeId × Value → H} {P : Program} {w : World} {base : Nat} {spare : Nat → Bool} {held : Bool} {t e : TypeId} {fs : Array Field} {fuel : Nat} {cs : List Value} {x : DataW H × List MemPlace}
    (ht : P.underlying t = some (.slice e)) (he : P.underlying e = some (.struct fs)) (hone : ∀ (i : Nat) (f : Field), fs[i]? = some f → f.offset = i ∧ P.cellsOf f.type = 1) (hC : P.cellsOf e = fs.size) (hpos : 0 < fs.size)
    (h : DataW.trod enc P w base spare held fuel t cs = some x) :
    ∃ (ao : Option Addr) (len cap : Nat), cs = [.slice ao len cap] ∧ len ≤ cap ∧ (ao = none → cap = 0) ∧ (0 < len → ∃ b o, ao = some ⟨b, o, none⟩ ∧
      ∀ i, i < len → ∀ (c : Nat) (f : Field), fs[c]? = some f → ∃ v n y, w.cell? ⟨b, o + i * fs.size + c, none⟩ = some v ∧ DataW.trod enc P w base spare held n f.type [v] = some y) := by
  rcases open_slice ht h with ⟨rfl, _⟩ | ⟨a, len, cap, m, n, D, Pl, rfl, hb, hl, hm, hmm, rfl, hx⟩
  · exact ⟨none, 0, 0, rfl, Nat.le_refl _, fun _ => rfl, fun h => by omega⟩
  · refine ⟨some a, len, cap, rfl, hl, (fun e => nomatch e), fun hp => ?_⟩
    have hlm : len ≤ m := by rw [hmm]; split <;> omega
    obtain ⟨b, o, spot⟩ := a
    have hspot : spot = none := by
      obtain ⟨cs', h1, _⟩ := hx 0 (by omega)
      rw [hC] at h1
      obtain ⟨_, hlen, hcell⟩ := World.cells?_some h1
      have h0 := hcell 0 hpos
      rw [List.getElem?_eq_getElem (by omega)] at h0
      simpa [Addr.add] using World.cell?_spot h0
    subst hspot
    refine ⟨b, o, rfl, fun i hi c f hf => ?_⟩
    obtain ⟨cs', h1, h2⟩ := hx i (by omega)
    rw [hC] at h1
    obtain ⟨_, hlen, hcell⟩ := World.cells?_some h1
    obtain ⟨xs, k, hk, hxy, _, hxl, hfs⟩ := DataW.trod_struct he h2
    have hc : c < fs.size := (Array.getElem?_eq_some_iff.1 hf).1
    obtain ⟨ho, hc1⟩ := hone c f hf
    have g := hfs c f hf
    rw [ho, hc1, take1_drop cs' c undef (by omega)] at g
    have e := hcell c hc
    rw [show cs'[c]? = some (cs'.getD c undef) by simp [List.getD, show c < cs'.length by omega], add_add, Go.WideShapes.add_plain, ← Nat.add_assoc] at e
    rw [List.getElem?_eq_getElem (by omega)] at g
    exact ⟨_, _, _, e, g⟩

end Go.Proofs.Ytlkfhobacgnckaa

