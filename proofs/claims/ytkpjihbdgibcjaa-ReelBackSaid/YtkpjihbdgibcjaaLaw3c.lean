/-
  The walk of the statement ReelLists; a slice of whole numbers among a row's arguments.
-/
import Derived.Test.YtkpjihbdgibcjaaPutL
import Derived.Test.YtkpjihbdgibcjaaLaw3
import Derived.ChangeSlices
import Derived.OpenShut
import Derived.WideShapes
namespace Go.Proofs.Ytkpjihbdgibcjaa
open Go.RowKit
set_option linter.unusedVariables false
set_option linter.unusedSimpArgs false
set_option maxRecDepth 100000

theorem sli_arg {H : Type} {enc : TypeId × Value → H} {W : World} {base b0 : Nat} {spare : Nat → Bool} {held : Bool} {v : Value} {d : DataW H} {ps : List MemPlace}
    (hval : Value.okWide Try.prog W .any b0 38 v) (h : DataW.Trod enc Try.prog W base spare held 38 v d ps) : ∃ l, SlI W v l := by
  obtain ⟨a0, len, cap, rfl⟩ := Go.WideShapes.okWide_slice Try.underlying38 hval
  obtain ⟨fuel, hf⟩ := h
  rcases Go.ChangeShapes.open_ints Try.underlying38 Try.underlying3 (by kernel_rfl) hf with ⟨hcs, _⟩ | ⟨a, len', cap', zs, hcs, _, hle, _, hall, _, hcell, _⟩
  · simp [Value.cells] at hcs
    obtain ⟨rfl, rfl, rfl⟩ := hcs
    exact ⟨[], SlI.nil W⟩
  · simp [Value.cells] at hcs
    obtain ⟨rfl, rfl, rfl⟩ := hcs
    have hz : len ≤ zs.length := by rw [hall]; split <;> omega
    refine ⟨zs.take len, some a, cap, by rw [List.length_take, Nat.min_eq_left hz], fun hp => ?_⟩
    rw [List.length_take, Nat.min_eq_left hz] at hp ⊢
    obtain ⟨b, off, rfl, hc⟩ := ints_at hcell (by omega)
    refine ⟨b, off, rfl, fun j hj => ?_⟩
    rw [hc j (by omega)]
    simp [List.getD, hj]

theorem sli_form {w : World} {v : Value} {l : List Int} (h : SlI w v l) : ∃ ao cap, v = .slice ao l.length cap := by
  obtain ⟨ao, cap, rfl, _⟩ := h
  exact ⟨ao, cap, rfl⟩

theorem lists_law (v : Value) (l : List Int) (w : World) (hs : SlI w v l) :
    Calls Try.prog 7 #[v] w (RetB (.bool true) w) := by
  have HS := Lib.hid hs
  obtain ⟨ao, cap, rfl⟩ := sli_form hs
  clear hs
  by_cases hl : l.length ≤ 2000
  · have hl' : (l.length : Int) ≤ 2000 := by omega
    go_enter Try.func7, Try.ntmps7
    go_wp2_with fail
    refine (putL_any _ l w HS.out hl).mono ?_
    rintro r w1 ⟨rfl, B1⟩
    go_wp2_with fail
    refine (ref_putL_any _ l w1 (HS.out.below B1) hl).mono ?_
    rintro r w2 ⟨rfl, B2⟩
    have H2 := Lib.hid (B1.trans (B2.mono B1.size))
    clear B1 B2
    go_wp2_with fail
    refine (long_any w2).mono ?_
    rintro r w3 ⟨rfl, B3⟩
    have H3 := Lib.hid (H2.out.trans (B3.mono H2.out.size))
    clear B3
    go_wp2_with fail
    go_ret
    exact ⟨rfl, H3.out⟩
  · have hl' : (2000 : Int) < l.length := by omega
    go_enter Try.func7, Try.ntmps7
    go_wp2_with fail
    refine (long_any w).mono ?_
    rintro r w3 ⟨rfl, B3⟩
    have H3 := Lib.hid B3
    clear B3
    go_wp2_with fail
    go_ret
    exact ⟨rfl, H3.out⟩

end Go.Proofs.Ytkpjihbdgibcjaa
