
/-
  Package entry: Bare; the law's exit.
-/
import Derived.Test.YtmmkdbcgkafolaaDoorEntE
import Derived.Test.YtmmkdbcgkafolaaDoorEntD
namespace Go.Proofs.YtmmkdbcgkafolaaDoor
open Go.RowKit
set_option linter.unusedVariables false
set_option linter.unusedSimpArgs false
set_option maxRecDepth 100000

def bareEv (k g : Int) : Ev := ⟨k, g, -1, -1, -1, -1, false, false⟩
theorem bare_any (k g : Int) (w : World) : Calls Tryd.prog 16 #[.int .i64 k, .int .i64 g] w fun r w' => r = .returned (evV (bareEv k g)) ∧ Below w.heap.size w w' := by
  go_enter Tryd.func16, Tryd.ntmps16
  go_wp2_with fail
  refine bodyPost_ret (v := evV (bareEv k g)) ?_ rfl ⟨rfl, below1 _ _⟩
  simp [results, Tryd.results16, go_sem, evV, bareEv]

theorem bare_chk : chk (bareEv 11 2) = 0 := by decide
theorem bare_enc : encS (bareEv 11 2) = [11, 3, 0, 0, 0, 0, 0] := by
  have e : ∀ n : Nat, n < 240 → putS n = [UInt8.ofNat n] := fun n h => by
    have hk : okN (n : Int) = true := by unfold okN; simp; omega
    rw [(putS_ok hk).2, enc_small h]
  unfold encS
  rw [if_pos bare_chk]
  show putS ((11 : Nat) : Int) ++ putS ((3 : Nat) : Int) ++ putS ((0 : Nat) : Int) ++ putS ((0 : Nat) : Int) ++ putS ((0 : Nat) : Int) ++ putS ((0 : Nat) : Int) ++ putS ((0 : Nat) : Int) = _
  rw [e 11 (by decide), e 3 (by decide), e 0 (by decide)]
  rfl
def exL : List UInt8 := [11, 3, 0, 0, 0, 0, 0, 97]
theorem ex_decB : decB exL = true := by decide
theorem ex_dec : decE exL = bareEv 11 2 ∧ decR exL = [97] ∧ decF exL = 0 := by
  refine ⟨?_, ?_, ?_⟩
  · unfold decE
    rw [if_pos ex_decB]
    unfold evOf bareEv
    rw [show num exL 0 = 11 by decide, show num exL 1 = 3 by decide, show num exL 2 = 0 by decide, show num exL 3 = 0 by decide, show num exL 4 = 0 by decide, show num exL 5 = 0 by decide, show m1 (num exL 6) = false by decide, show m2 (num exL 6) = false by decide]
    rfl
  · unfold decR
    rw [if_pos ex_decB]
    decide
  · unfold decF
    rw [if_pos ex_decB]

theorem exit_any (w : World) (hg : Glob w) : Calls Tryd.prog 13 #[] w fun r w' => r = .returned (.bool true) ∧ Below w.heap.size w w' := by
  have G := Lib.hid hg
  clear hg
  go_enter Tryd.func13, Tryd.ntmps13
  go_wp2_with fail
  refine (bare_any 11 2 _).mono ?_
  rintro r w1 ⟨rfl, hB1⟩
  have B1 := Lib.hid hB1
  clear hB1
  go_wp2_with fail
  refine (encode_any (bareEv 11 2) _ (G.out.below B1.out)).mono ?_
  rintro r w2 ⟨rfl, hB2⟩
  rw [bare_enc, bare_chk]
  have B2 := Lib.hid (below_next B1.out hB2)
  clear hB2
  go_wp2_with fail
  refine (decode_any exL _ (G.out.below B2.out) (by decide)).mono ?_
  rintro r w3 ⟨rfl, hB3⟩
  rw [ex_dec.1, ex_dec.2.1, ex_dec.2.2]
  have B3 := Lib.hid (below_next B2.out hB3)
  clear hB3
  unfold evV bareEv
  dsimp only
  go_wp2_with fail
  go_ret
  exact ⟨rfl, B3.out.alloc B3.out.size _⟩
end Go.Proofs.YtmmkdbcgkafolaaDoor

