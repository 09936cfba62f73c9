
/-
  Package report: First and Races on no report.
-/
import Derived.Test.YtkcnbkdpjlpppaaRptA
import Derived.Test.YtkcnbkdpjlpppaaRefE
namespace Go.Proofs.Ytkcnbkdpjlpppaa
open Go.RowKit
set_option linter.unusedVariables false
set_option linter.unusedSimpArgs false
set_option maxRecDepth 100000

def race0 : Value := .agg #[.int .i64 0, .int .i64 0, .int .i64 0, .int .i64 0, .bool false]
theorem load_five {w : World} {p : Nat} {t : TypeId} (a0 a1 a2 a3 : Int) (x : Bool) (h : w.heap[p]? = some (Obj.cells #[.int .i64 a0, .int .i64 a1, .int .i64 a2, .int .i64 a3, .bool x] t (0, 0))) :
    (loadVar 38 ⟨p, 0, none⟩).run Try.prog w = .ok (.agg #[.int .i64 a0, .int .i64 a1, .int .i64 a2, .int .i64 a3, .bool x]) w :=
  run_loadVar_mid (P := Try.prog) w p 0 38 [.int .i64 a0, .int .i64 a1, .int .i64 a2, .int .i64 a3, .bool x] _ (by
    intro j v hj
    simp only [World.cell?, h, Nat.zero_add]
    match j, hj with
    | 0, hj => simpa using hj
    | 1, hj => simpa using hj
    | 2, hj => simpa using hj
    | 3, hj => simpa using hj
    | 4, hj => simpa using hj
    | j + 5, hj => simp at hj) Try.underlying38 rfl (by kernel_rfl)
theorem rfirst_nil (c : Int) (w : World) : Calls Try.prog 10 #[.pointer none, .int .i64 c] w fun r w' => r = .returned (.tuple #[race0, .bool false]) ∧ Below w.heap.size w w' := by
  obtain ⟨W, hW⟩ : ∃ W, w.alloc (.cells #[.int .i64 0, .int .i64 0, .int .i64 0, .int .i64 0, .bool false] 38) = W := ⟨_, rfl⟩
  have Z := Lib.hid (show W.heap[w.heap.size]? = some (.cells #[.int .i64 0, .int .i64 0, .int .i64 0, .int .i64 0, .bool false] 38 (0, 0)) from by rw [← hW]; exact heap_alloc_new w _)
  have B := Lib.hid (show Below w.heap.size w W from by rw [← hW]; exact (Below.refl _ _).alloc (Nat.le_refl _) _)
  have HW := Lib.hid hW
  clear hW
  go_enter Try.func10, Try.ntmps10
  go_wp2_with fail
  try rw [HW.out]
  exact bodyPost_ret (v := .tuple #[race0, .bool false]) (results_cell_tmp2 Try.results10 _ _ _ _ rfl (load_five 0 0 0 0 false Z.out)) rfl ⟨rfl, B.out⟩
theorem rraces_nil (w : World) : Calls Try.prog 11 #[.pointer none] w fun r w' => r = .returned (.slice none 0 0) ∧ Below w.heap.size w w' := by
  go_enter Try.func11, Try.ntmps11
  go_wp2_with fail
  go_loopw [7, 3] (fun i z wr => ∃ k : Nat, k ≤ 8 ∧ i = .int .i64 k ∧ z = .slice none 0 0 ∧ Below w.heap.size w wr) (fun i _ _ => 8 - (intOf i).toNat)
  case atStart => exact ⟨0, by omega, rfl, rfl, Below.refl _ _⟩
  case round =>
    obtain ⟨k, hk, rfl, rfl, hb⟩ := hrel
    have HB := Lib.hid hb
    clear hb
    by_cases hlt : k < 8
    · have hlt' : (k : Int) < 8 := by omega
      go_wp2_with fail
      refine (rfirst_nil k wr).mono ?_
      rintro r w2 ⟨rfl, hb2⟩
      have B2 := Lib.hid (below_trans HB.out hb2 HB.out.size)
      have B3 := Lib.hid (show ∀ o, Below w.heap.size w (w2.alloc o) from fun o => B2.out.alloc B2.out.size _)
      clear hb2
      unfold race0
      go_wp2_with fail
      go_roundw
      case rel => exact ⟨k + 1, by omega, by go_num, rfl, B3.out _⟩
      case measure => simp [intOf] <;> omega
    · have hge : (8 : Int) ≤ k := by omega
      go_wp2_with fail
      go_ret
      exact ⟨rfl, HB.out⟩
end Go.Proofs.Ytkcnbkdpjlpppaa

