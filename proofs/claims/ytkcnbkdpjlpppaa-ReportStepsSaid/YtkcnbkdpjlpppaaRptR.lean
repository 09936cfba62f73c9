
/-
  Report: comparisons of races and of rows of reads.
-/
import Derived.Test.YtkcnbkdpjlpppaaRptQ
import Derived.ChangeKeysEq
namespace Go.Proofs.Ytkcnbkdpjlpppaa
open Go.RowKit
set_option linter.unusedVariables false
set_option linter.unusedSimpArgs false
set_option maxRecDepth 100000

theorem run_eqQr_self (a1 a2 a3 a4 : Int) (a0 a5 : Bool) (w : World) :
    (Op.equalIn 10000 62 (.agg #[.bool a0, .int .i64 a1, .int .i64 a2, .int .i64 a3, .int .i64 a4, .bool a5]) (.agg #[.bool a0, .int .i64 a1, .int .i64 a2, .int .i64 a3, .int .i64 a4, .bool a5])).run Try.prog w = .ok true w := by
  have h0 : (a0 == a0) = true := by simp
  have h1 : (a1 == a1) = true := by simp
  have h2 : (a2 == a2) = true := by simp
  have h3 : (a3 == a3) = true := by simp
  have h4 : (a4 == a4) = true := by simp
  have h5 : (a5 == a5) = true := by simp
  go_simp
theorem run_eqItems_ints (d : Nat) (xs ys : List Int) (w : World) : ∀ is : List Nat, (∀ i, i ∈ is → i < xs.length ∧ i < ys.length) →
    (Op.eqItems (d + 1) 3 (Try.prog.cellsOf 3) (ints xs).toArray (ints ys).toArray is).run Try.prog w = .ok (is.all fun i => xs.getD i 0 == ys.getD i 0) w
  | [], _ => by simp [Op.eqItems]
  | i :: is, h => by
    obtain ⟨h1, h2⟩ := h i (by simp)
    have k1 : Try.prog.cellsOf 3 = 1 := by kernel_rfl
    have p1 := run_part_plain (P := Try.prog) (e := 3) w (by kernel_rfl) (xs := (ints xs).toArray) (off := i * Try.prog.cellsOf 3) (v := .int .i64 (xs.getD i 0)) (by rw [k1, Nat.mul_one]; simpa using getElem?_ints xs i h1)
    have p2 := run_part_plain (P := Try.prog) (e := 3) w (by kernel_rfl) (xs := (ints ys).toArray) (off := i * Try.prog.cellsOf 3) (v := .int .i64 (ys.getD i 0)) (by rw [k1, Nat.mul_one]; simpa using getElem?_ints ys i h2)
    have p3 := run_equalIn_int (P := Try.prog) w d 3 .i64 .i64 (xs.getD i 0) (ys.getD i 0) Try.underlying3
    have ih := run_eqItems_ints d xs ys w is (fun j hj => h j (by simp [hj]))
    simp only [Op.eqItems, Sem.run_bind, p1, p2, p3, Result.andThen_ok, List.all_cons]
    cases hb : (xs.getD i 0 == ys.getD i 0)
    · simp
    · simpa using ih
def nzB (rd : List Int) : Bool := !(List.range 256).all fun i => rd.getD i 0 == zeros.getD i 0
theorem info66 : (Try.prog.info? 66).map (fun i => (i.zero, i.size)) = some (some (.agg (ints zeros).toArray), 256) := by kernel_rfl
theorem run_neq_reads (rd : List Int) (hl : rd.length = 256) (Z : Array Value) (hZ : (ints zeros).toArray = Z) (w : World) :
    (Op.equalIn 10000 66 (.agg (ints rd).toArray) (.agg Z)).run Try.prog w = .ok (!nzB rd) w := by
  subst hZ
  obtain ⟨i, hi⟩ := info_of_underlying Try.underlying3
  rw [show (10000 : Nat) = 9999 + 1 from rfl, run_equalIn_array (P := Try.prog) w 9999 _ _ Try.underlying66 hi, show (9999 : Nat) = 9998 + 1 from rfl, run_eqItems_ints 9998 rd zeros w (List.range 256) (fun j hj => by
    have := List.mem_range.1 hj
    refine ⟨by omega, ?_⟩
    unfold zeros
    rw [List.length_replicate]
    exact this)]
  unfold nzB
  rw [Bool.not_not]
theorem nz_len {l rd : List Int} (h : RelL l rd) (hs : SrtE l) : decide (0 < l.length) = nzB rd := by
  have hz : ∀ i, zeros.getD i 0 = 0 := fun i => by
    unfold zeros
    rw [List.getD_eq_getElem?_getD, List.getElem?_replicate]
    split <;> rfl
  unfold nzB
  by_cases hh : ∃ t : Nat, t < 256 ∧ 0 < rd.getD t 0
  · obtain ⟨t, ht, hp⟩ := hh
    have hm := (h.mem _).2 ⟨t, ht, hp, rfl⟩
    have hl := List.length_pos_of_mem hm
    rw [decide_eq_true hl]
    have : (List.range 256).all (fun i => rd.getD i 0 == zeros.getD i 0) = false := by
      rw [List.all_eq_false]
      exact ⟨t, List.mem_range.2 ht, by rw [hz]; intro e; have := eq_of_beq e; omega⟩
    rw [this]; rfl
  · have hl : l.length = 0 := by
      cases l with
      | nil => rfl
      | cons y l =>
        obtain ⟨t, ht, hp, _⟩ := (h.mem y).1 (by simp)
        exact absurd ⟨t, ht, hp⟩ hh
    rw [decide_eq_false (by omega)]
    have : (List.range 256).all (fun i => rd.getD i 0 == zeros.getD i 0) = true := by
      rw [List.all_eq_true]
      intro t ht
      have ht' := List.mem_range.1 ht
      have h1 := (h.bd t ht').1
      have h2 : ¬ 0 < rd.getD t 0 := fun hp => hh ⟨t, ht', hp⟩
      rw [hz]; exact beq_iff_eq.2 (by omega)
    rw [this]; rfl
end Go.Proofs.Ytkcnbkdpjlpppaa

