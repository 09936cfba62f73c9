
/-
  Layer 4: a send's bytes (staithelaw04.send).
-/
import Derived.Test.YtobgdchlblhaiaaDeeJ
import Derived.Test.YtobgdchlblhaiaaDeeH
import Derived.Test.YtobgdchlblhaiaaDeeO
namespace Go.Proofs.Ytobgdchlblhaiaa
open Go.RowKit
set_option linter.unusedVariables false
set_option linter.unusedSimpArgs false
set_option maxRecDepth 100000

def sO : Opn := ⟨3, 2, 7, [], false⟩
def sL : List UInt8 := [3, 2, 7, 97]
theorem s_chk : chkO sO 1 = 0 := by decide
theorem s_enc : encO sO 1 = [3, 2, 7] := by
  have e : ∀ n : Nat, n < 240 → putS n = [UInt8.ofNat n] := fun n h => by
    have hk : okN (n : Int) = true := by unfold okN; simp; omega
    unfold putS
    rw [if_pos hk]
    exact enc_small h
  unfold encO
  rw [if_pos s_chk]
  show putS ((3 : Nat) : Int) ++ (putS ((2 : Nat) : Int) ++ (putS ((7 : Nat) : Int) ++ [])) = _
  rw [e 3 (by decide), e 2 (by decide), e 7 (by decide)]
  rfl
theorem s_ok : decOk sL 1 = true := by decide
theorem s_dec : decO sL 1 = sO ∧ decOR sL 1 = [97] ∧ decOF sL 1 = 0 := by
  refine ⟨?_, ?_, ?_⟩
  · unfold decO; rw [if_pos s_ok]; decide
  · unfold decOR; rw [if_pos s_ok]; decide
  · unfold decOF; rw [if_neg (by decide), if_pos s_ok]

theorem send_any (w : World) : Calls Try.prog 8 #[] w fun r w' => r = .returned (.bool true) ∧ Below w.heap.size w w' := by
  have P1 := fun w => Lib.hid (dencode_any sO (.slice none 0 0) 1 w (CssOf.nil w))
  have P2 := fun w => Lib.hid (ddecode_any sL 1 w (by decide))
  unfold DecPost at P2
  rw [s_enc, s_chk] at P1
  rw [s_dec.1, s_dec.2.1, s_dec.2.2] at P2
  have P3 := fun v w h => Lib.hid (op_any sO sO v (.slice none 0 0) w h (CssOf.nil w) (by decide))
  have P4 := fun w => Lib.hid (rel_any sO (.slice none 0 0) w)
  rw [show decide (sO = sO) = true by decide] at P3
  rw [show relB sO.k = true by decide] at P4
  unfold opV sO at P1 P2 P3 P4
  dsimp only at P1 P2 P3 P4
  have A0 := heap_alloc_new w (.cells #[.int .i64 3, .int .i64 2, .int .i64 7, .slice none 0 0, .bool false] 24)
  have HA := Lib.hid A0
  have B0 := Lib.hid (below1 w (.cells #[.int .i64 3, .int .i64 2, .int .i64 7, .slice none 0 0, .bool false] 24))
  clear A0
  go_enter Try.func8, Try.ntmps8
  go_wp2_with fail
  refine ((P1 _).out).mono ?_
  rintro r w1 ⟨rfl, hB1⟩
  have B1 := Lib.hid (below_next B0.out hB1)
  have A1 := Lib.hid ((hB1.block _ (by simp)).trans HA.out)
  clear hB1
  go_wp2_with fail
  refine ((P2 _).out).mono ?_
  rintro r w2 ⟨v, rfl, hcs, hB2⟩
  have B2 := Lib.hid (below_next B1.out hB2)
  have A2 := Lib.hid ((hB2.block _ (lt_of_heap A1.out)).trans A1.out)
  obtain ⟨ao, cap, rfl⟩ := hcs.shape
  have CS := Lib.hid hcs
  have S2 := lt_of_heap A2.out
  clear hB2 hcs
  have XL := Lib.hid (show CssOf w2 (.slice ao 0 cap) [] from CS.out)
  obtain ⟨y0, y1, y2, y3, y4⟩ := five_cells A2.out
  have P5 : ∀ w, CssOf w (.slice ao 0 cap) [] → _ := fun w h => P3 (.slice ao 0 cap) w h
  show _
  go_wp2_with fail
  refine ((P5 _ (XL.out.below (Nat.le_refl _) (below1 w2 (.cells #[.int .i64 3, .int .i64 2, .int .i64 7, .slice ao 0 cap, .bool false] 24)))).out).mono ?_
  rintro r w3 ⟨rfl, hB3⟩
  have B3 := Lib.hid (below_next (B2.out.alloc B2.out.size _) hB3)
  have A3 := (hB3.block w.heap.size (by simp; omega)).trans ((heap_alloc_old w2 _ S2).trans A2.out)
  clear hB3 y0 y1 y2 y3 y4
  obtain ⟨y0, y1, y2, y3, y4⟩ := five_cells A3
  clear A3
  go_wp2_with fail
  refine ((P4 _).out).mono ?_
  rintro r w4 ⟨rfl, hB4⟩
  have B4 := Lib.hid (below_next B3.out hB4)
  clear hB4
  go_wp2_with fail
  go_ret
  exact ⟨rfl, B4.out⟩
end Go.Proofs.Ytobgdchlblhaiaa

