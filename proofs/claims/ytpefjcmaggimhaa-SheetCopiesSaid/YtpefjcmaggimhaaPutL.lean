
/-
  Lists of numbers put as bytes: reel.PutList and staitheref03.PutList.
-/
import Derived.Test.YtpefjcmaggimhaaList
import Derived.Test.YtpefjcmaggimhaaBldS
namespace Go.Proofs.Ytpefjcmaggimhaa
open Go.RowKit
set_option linter.unusedVariables false
set_option linter.unusedSimpArgs false
set_option maxRecDepth 100000

def allOk (l : List Int) : Bool := l.all fun n => okN n
def flat (l : List Int) : List UInt8 := l.flatMap putS
def putLS (l : List Int) : List UInt8 := if allOk l then putS l.length ++ flat l else []
def putLE (l : List Int) : Int := if allOk l then 0 else 1

theorem putS_len (n : Int) : (putS n).length ≤ 7 := by
  unfold putS
  split
  · rename_i h
    rw [length_enc]
    unfold sizeN
    split
    · omega
    · have := nby_most (n := n.toNat) (by unfold okN at h; simp at h; unfold mostN; omega)
      omega
  · simp
theorem flat_len (l : List Int) : (flat l).length ≤ 7 * l.length := by
  induction l with
  | nil => simp [flat]
  | cons a l ih =>
    have := putS_len a
    simp only [flat, List.flatMap_cons, List.length_append, List.length_cons] at ih ⊢
    omega
theorem flat_snoc (l : List Int) (k : Nat) (h : k < l.length) : flat (l.take (k + 1)) = flat (l.take k) ++ putS (l.getD k 0) := by
  have e : l.take (k + 1) = l.take k ++ [l.getD k 0] := by rw [List.take_add_one]; simp [List.getD, h]
  rw [flat, e, List.flatMap_append]
  simp [flat]
theorem putS_head (k : Nat) (h : k ≤ 1000000) : putS k ≠ [] := by
  have hk : okN (k : Int) = true := by simp [okN]; omega
  unfold putS
  rw [if_pos hk]
  intro e
  have := congrArg List.length e
  rw [length_enc] at this
  unfold sizeN at this
  split at this
  · simp at this
  · simp at this
theorem allOk_bad {l : List Int} {k : Nat} (h : k < l.length) (hb : okN (l.getD k 0) = false) : allOk l = false := by
  unfold allOk
  rw [List.all_eq_false]
  refine ⟨l[k], List.getElem_mem h, ?_⟩
  simpa [List.getD, h] using hb
theorem allOk_of {l : List Int} (h : ∀ j, j < l.length → okN (l.getD j 0) = true) : allOk l = true := by
  unfold allOk
  rw [List.all_eq_true]
  intro x hx
  obtain ⟨i, hi, rfl⟩ := List.mem_iff_getElem.1 hx
  have := h i hi
  simpa [List.getD, hi] using this

theorem ref_putL_any (v : Value) (l : List Int) (w : World) (hs : SlI w v l) (hl : l.length ≤ 2000) :
    Calls Try.prog 31 #[v] w fun r w' => r = .returned (.tuple #[bs (putLS l), .int .i64 (putLE l)]) ∧ Below w.heap.size w w' := by
  obtain ⟨ao, cap, rfl, hc⟩ := hs
  have HC := Lib.hid hc
  clear hc
  go_enter Try.func31, Try.ntmps31
  go_wp2_with fail
  refine (ref_put_any _ _).mono ?_
  rintro r w1 ⟨rfl, B1⟩
  go_wp2_with fail
  go_loopw [4, 18] (fun s i wr => ∃ k : Nat, k ≤ l.length ∧ i = .int .i64 k ∧ s = bs (putS l.length ++ flat (l.take k)) ∧ (∀ j, j < k → okN (l.getD j 0) = true) ∧ Below w.heap.size w wr) (fun _ i _ => l.length - (intOf i).toNat)
  case atStart => exact ⟨0, by omega, rfl, by simp [flat], fun j hj => by omega, B1⟩
  case round =>
    obtain ⟨k, hk, rfl, rfl, hok, hb⟩ := hrel
    have K := Lib.hid hok
    have HB := Lib.hid hb
    clear hok hb
    by_cases hlt : k < l.length
    · have hlt' : (k : Int) < (l.length : Int) := by omega
      obtain ⟨g, z, rfl, hcc⟩ := HC.out (by omega)
      have hcw := hcc k hlt
      have c0 := (HB.out.cell (p := ⟨g, z + k, none⟩) (block_lt_of_cell hcw)).trans hcw
      clear hcc hcw
      have F := Lib.hid (flat_snoc l k hlt)
      obtain ⟨u, hu⟩ : ∃ u, l.getD k 0 = u := ⟨_, rfl⟩
      rw [hu] at c0
      have U := Lib.hid hu
      clear hu
      go_wp2_with fail
      refine (ref_put_any u wr).mono ?_
      rintro r w2 ⟨rfl, B2⟩
      have H2 := Lib.hid (HB.out.trans (B2.mono HB.out.size))
      clear B2
      cases hq : okN u with
      | true =>
        have q1 : putE u = 0 := by simp [putE, hq]
        rw [q1]
        have Q := Lib.hid hq
        clear hq q1
        go_wp2_with fail
        · exfalso
          have n1 := putS_len l.length
          have n2 := flat_len (l.take k)
          have n3 := putS_len u
          have n4 : (l.take k).length ≤ 2000 := by simp; omega
          rename_i hh
          try simp only [List.length_append] at hh
          omega
        refine ⟨⟨k + 1, by omega, by go_num, by rw [F.out, U.out], fun j hj => ?_, H2.out⟩, by simp [intOf] <;> omega⟩
        by_cases hjk : j = k
        · subst hjk; rw [U.out]; exact Q.out
        · exact K.out j (by omega)
      | false =>
        have q1 : putE u = 1 := by simp [putE, hq]
        have q2 := allOk_bad hlt (by rw [U.out]; exact hq)
        have Q := Lib.hid (show putLS l = [] ∧ putLE l = 1 by simp [putLS, putLE, q2])
        rw [q1]
        clear hq q1 q2
        go_wp2_with fail
        go_ret2
        exact ⟨by rw [Q.out.1, Q.out.2]; rfl, H2.out⟩
    · have hkl : k = l.length := by omega
      have hge : (l.length : Int) ≤ k := by omega
      have q2 : allOk l = true := allOk_of (fun j hj => K.out j (by omega))
      have Q := Lib.hid (show putLS l = putS l.length ++ flat (l.take k) ∧ putLE l = 0 by rw [hkl, List.take_length]; simp [putLS, putLE, q2])
      clear q2 hkl hlt
      go_wp2_with fail
      go_ret2
      exact ⟨by rw [Q.out.1, Q.out.2]; rfl, HB.out⟩


set_option maxHeartbeats 1000000 in
theorem putL_any (v : Value) (l : List Int) (w : World) (hs : SlI w v l) (hl : l.length ≤ 2000) :
    Calls Try.prog 25 #[v] w fun r w' => r = .returned (.tuple #[bs (putLS l), .int .i64 (putLE l)]) ∧ Below w.heap.size w w' := by
  obtain ⟨ao, cap, rfl, hc⟩ := hs
  have HC := Lib.hid hc
  clear hc
  go_enter Try.func25, Try.ntmps25
  go_wp2_with fail
  refine (put_any _ _).mono ?_
  rintro r w1 ⟨rfl, B1⟩
  have I0 := bld_below (bld_new w w.heap.size (Nat.le_refl _)) B1
  have hB1 : Below w.heap.size w w1 := ((Below.refl w.heap.size w).alloc (Nat.le_refl _) (.cells #[.pointer none, .slice none 0 0] 54)).trans (B1.mono (by simp))
  clear B1
  have n1 := putS_len l.length
  go_wp2_with fail
  refine (write_bs w.heap.size w.heap.size [] _ w1 I0 (by simp; omega) hB1.size).mono ?_
  rintro r w2 ⟨⟨q, rfl⟩, I2, B2⟩
  have hB2 := hB1.trans B2
  rw [List.nil_append] at I2
  clear I0 hB1 B2
  go_wp2_with fail
  go_loopw [21] (fun i wr => ∃ k : Nat, k ≤ l.length ∧ i = .int .i64 k ∧ Lib.IsBuilder 54 5 w.heap.size w.heap.size (Lib.byteCells (putS l.length ++ flat (l.take k))) wr ∧ (∀ j, j < k → okN (l.getD j 0) = true) ∧ Below w.heap.size w wr) (fun i _ => l.length - (intOf i).toNat)
  case atStart => exact ⟨0, by omega, rfl, by simpa [flat] using I2, fun j hj => by omega, hB2⟩
  case round =>
    obtain ⟨k, hk, rfl, hi, hok, hb⟩ := hrel
    have K := Lib.hid hok
    have HB := Lib.hid hb
    clear hok hb
    have n2 := flat_len (l.take k)
    have n4 : (l.take k).length ≤ 2000 := by simp; omega
    by_cases hlt : k < l.length
    · have hlt' : (k : Int) < (l.length : Int) := by omega
      obtain ⟨g, z, rfl, hcc⟩ := HC.out (by omega)
      have hcw := hcc k hlt
      have c0 := (HB.out.cell (p := ⟨g, z + k, none⟩) (block_lt_of_cell hcw)).trans hcw
      clear hcc hcw
      have F := Lib.hid (flat_snoc l k hlt)
      obtain ⟨u, hu⟩ : ∃ u, l.getD k 0 = u := ⟨_, rfl⟩
      rw [hu] at c0
      have U := Lib.hid hu
      have n3 := putS_len u
      clear hu
      go_wp2_with fail
      refine (put_any u wr).mono ?_
      rintro r w3 ⟨rfl, B3⟩
      have H3 := HB.out.trans (B3.mono HB.out.size)
      have I3 := bld_below hi B3
      clear B3 hi
      cases hq : okN u with
      | true =>
        have q1 : putE u = 0 := by simp [putE, hq]
        rw [q1]
        have Q := Lib.hid hq
        clear hq q1
        go_wp2_with fail
        refine (write_bs w.heap.size w.heap.size _ (putS u) w3 I3 (by simp only [List.length_append]; omega) H3.size).mono ?_
        rintro r w4 ⟨⟨q4, rfl⟩, I4, B4⟩
        have H4 := Lib.hid (H3.trans B4)
        have J4 := Lib.hid I4
        clear I3 H3 B4 I4
        go_wp2_with fail
        refine ⟨⟨k + 1, by omega, by go_num, by rw [F.out, U.out, ← List.append_assoc]; exact J4.out, fun j hj => ?_, H4.out⟩, by simp [intOf] <;> omega⟩
        by_cases hjk : j = k
        · subst hjk; rw [U.out]; exact Q.out
        · exact K.out j (by omega)
      | false =>
        have q1 : putE u = 1 := by simp [putE, hq]
        have q2 := allOk_bad hlt (by rw [U.out]; exact hq)
        have Q := Lib.hid (show putLS l = [] ∧ putLE l = 1 by simp [putLS, putLE, q2])
        have H4 := Lib.hid H3
        rw [q1]
        clear hq q1 q2 I3 H3
        go_wp2_with fail
        go_ret2
        exact ⟨by rw [Q.out.1, Q.out.2]; rfl, H4.out⟩
    · have hkl : k = l.length := by omega
      have hge : (l.length : Int) ≤ k := by omega
      have q2 : allOk l = true := allOk_of (fun j hj => K.out j (by omega))
      have Q := Lib.hid (show putLS l = putS l.length ++ flat (l.take k) ∧ putLE l = 0 by rw [hkl, List.take_length]; simp [putLS, putLE, q2])
      have hh := putS_head l.length (by omega)
      clear q2 hkl hlt
      go_wp2_with fail
      refine (string_any w.heap.size w.heap.size _ wr hi (by simp [hh])).mono ?_
      rintro r w5 ⟨rfl, B5⟩
      have H5 := Lib.hid (HB.out.trans B5)
      clear B5 hi
      go_wp2_with fail
      go_ret2
      exact ⟨by rw [Q.out.1, Q.out.2]; rfl, H5.out⟩

end Go.Proofs.Ytpefjcmaggimhaa

