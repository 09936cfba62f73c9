
/-
  Package remap: taken.
-/
import Derived.Test.YtmhonibalgddcaaRemD
namespace Go.Proofs.Ytmhonibalgddcaa
open Go.RowKit
set_option linter.unusedVariables false
set_option linter.unusedSimpArgs false
set_option maxRecDepth 100000

def heldB (r : Rec) (tid at' : Int) : Bool := decide (r.tid = tid) && (!r.gone || decide (at' < r.till))
def takenB (rs : List Rec) (tid at' : Int) : Bool := rs.any (fun r => heldB r tid at')
theorem taken1_any (r : Rec) (tid at' : Int) (p q : Nat) (w : World) (h1 : w.cell? ⟨p, 0, none⟩ = some (.int .i64 tid)) (h2 : w.cell? ⟨q, 0, none⟩ = some (.int .i64 at')) :
    Calls Try.prog 29 #[recV r, .pointer (some ⟨p, 0, none⟩), .pointer (some ⟨q, 0, none⟩)] w fun e w' => e = .returned (.bool (heldB r tid at')) ∧ Below w.heap.size w w' := by
  unfold recV heldB
  have g1 : ∀ X, (w.alloc X).cell? ⟨p, 0, none⟩ = some (.int .i64 tid) := fun X => (World.cell?_of_block (heap_alloc_old w _ (block_lt_of_cell h1))).trans h1
  have g2 : ∀ X, (w.alloc X).cell? ⟨q, 0, none⟩ = some (.int .i64 at') := fun X => (World.cell?_of_block (heap_alloc_old w _ (block_lt_of_cell h2))).trans h2
  obtain ⟨x, hx⟩ : ∃ x, decide (r.tid = tid) = x := ⟨_, rfl⟩
  obtain ⟨y, hy⟩ : ∃ y, decide (at' < r.till) = y := ⟨_, rfl⟩
  obtain ⟨z, hz⟩ : ∃ z, r.gone = z := ⟨_, rfl⟩
  rw [hx, hy, hz]
  cases x with
  | false =>
    have hx' : ¬ (r.tid = tid) := by simpa using hx
    go_enter Try.func29, Try.ntmps29
    go_wp2_with fail
    go_ret
    exact ⟨by simp, (Below.refl _ _).alloc (Nat.le_refl _) _⟩
  | true =>
    have hx' : r.tid = tid := by simpa using hx
    cases z with
    | false =>
      go_enter Try.func29, Try.ntmps29
      go_wp2_with fail
      go_ret
      exact ⟨by simp, (Below.refl _ _).alloc (Nat.le_refl _) _⟩
    | true =>
      go_enter Try.func29, Try.ntmps29
      go_wp2_with fail
      go_ret
      exact ⟨by simp, (Below.refl _ _).alloc (Nat.le_refl _) _⟩

def idxTo (rs : List Rec) (tid at' : Int) : Int := match rs.findIdx? (fun r => heldB r tid at') with | some k => k | none => -1
theorem idx_some {rs : List Rec} {tid at' : Int} {k : Nat} (hk : k < rs.length) (h : heldB (rs.getD k default) tid at' = true) (hb : ∀ j, j < k → heldB (rs.getD j default) tid at' = false) : takenB rs tid at' = true := by
  unfold takenB
  rw [List.any_eq_true]
  refine ⟨rs.getD k default, ?_, h⟩
  rw [List.getD_eq_getElem?_getD, List.getElem?_eq_getElem hk]; exact List.getElem_mem _
theorem idx_none {rs : List Rec} {tid at' : Int} (hb : ∀ j, j < rs.length → heldB (rs.getD j default) tid at' = false) : takenB rs tid at' = false := by
  unfold takenB
  rw [List.any_eq_false]
  intro r hr
  obtain ⟨j, hj, rfl⟩ := List.getElem_of_mem hr
  have := hb j hj
  rw [List.getD_eq_getElem?_getD, List.getElem?_eq_getElem hj] at this
  simpa using this

theorem index_any (v : Value) (rs : List Rec) (tid at' : Int) (p q : Nat) (w : World) (h : RsOf w v rs) (hN : rs.length ≤ 1000) (h1 : w.cell? ⟨p, 0, none⟩ = some (.int .i64 tid)) (h2 : w.cell? ⟨q, 0, none⟩ = some (.int .i64 at')) :
    Calls Try.prog 33 #[v, .func (.func 29) #[] #[.pointer (some ⟨p, 0, none⟩), .pointer (some ⟨q, 0, none⟩)]] w fun e w' => (∃ i : Int, e = .returned (.int .i64 i) ∧ decide (0 ≤ i) = takenB rs tid at') ∧ Below w.heap.size w w' := by
  obtain ⟨ao, cap, rfl, hc⟩ := h
  have HC := Lib.hid hc
  have H1 := Lib.hid h1
  have H2 := Lib.hid h2
  obtain ⟨n, hn⟩ : ∃ n, rs.length = n := ⟨_, rfl⟩
  rw [hn] at hN
  have HN := Lib.hid hn
  rw [hn]
  clear hc h1 h2 hn
  go_enter Try.func33, Try.ntmps33
  go_wp2_with fail
  go_loopw [8] (fun i wr => ∃ k : Nat, k ≤ n ∧ i = .int .i64 k ∧ (∀ j, j < k → heldB (rs.getD j default) tid at' = false) ∧ Below w.heap.size w wr) (fun i _ => n - (intOf i).toNat)
  case atStart => exact ⟨0, by omega, rfl, fun j hj => by omega, Below.refl _ _⟩
  case round =>
    obtain ⟨k, hk, rfl, hp, hb⟩ := hrel
    have K := Lib.hid hp
    have HB := Lib.hid hb
    clear hp hb
    by_cases hlt : k < n
    · have hlt' : (k : Int) < (n : Int) := by omega
      obtain ⟨b, o, rfl, hcc⟩ := HC.out (by have := HN.out; omega)
      obtain ⟨c0, c1, c2, c3, c4, c5⟩ := (hcc k (by have := HN.out; omega)).below (Nat.le_refl _) HB.out
      obtain ⟨r, hrr⟩ : ∃ r, rs.getD k default = r := ⟨_, rfl⟩
      rw [hrr] at c0 c1 c2 c3 c4 c5
      have RR := Lib.hid hrr
      clear hrr hcc
      go_wp2_with fail
      refine (taken1_any r tid at' p q wr ((HB.out.cell (p := ⟨p, 0, none⟩) (block_lt_of_cell H1.out)).trans H1.out) ((HB.out.cell (p := ⟨q, 0, none⟩) (block_lt_of_cell H2.out)).trans H2.out)).mono ?_
      rintro e w1 ⟨rfl, hb1⟩
      have B1 := Lib.hid (below_trans HB.out hb1 HB.out.size)
      clear hb1
      cases hh : heldB r tid at' with
      | true =>
        have T := Lib.hid (idx_some (rs := rs) (tid := tid) (at' := at') (k := k) (by have := HN.out; omega) (by rw [RR.out]; exact hh) K.out)
        clear hh
        go_wp2_with fail
        go_ret
        exact ⟨⟨_, rfl, by rw [T.out]; exact decide_eq_true (by omega)⟩, B1.out⟩
      | false =>
        have T := Lib.hid (show ∀ j, j < k + 1 → heldB (rs.getD j default) tid at' = false from fun j hj => by
          by_cases hjk : j = k
          · subst hjk; rw [RR.out]; exact hh
          · exact K.out j (by omega))
        clear hh
        go_wp2_with fail
        go_roundw
        case rel => exact ⟨k + 1, by omega, by go_num, T.out, B1.out⟩
        case measure => simp [intOf] <;> omega
    · have hge : (n : Int) ≤ k := by omega
      have T := Lib.hid (idx_none (rs := rs) (tid := tid) (at' := at') (fun j hj => K.out j (by have := HN.out; omega)))
      clear hlt
      go_wp2_with fail
      go_ret
      exact ⟨⟨_, rfl, by rw [T.out]; rfl⟩, HB.out⟩

theorem contains_any (v : Value) (rs : List Rec) (tid at' : Int) (p q : Nat) (w : World) (h : RsOf w v rs) (hN : rs.length ≤ 1000) (h1 : w.cell? ⟨p, 0, none⟩ = some (.int .i64 tid)) (h2 : w.cell? ⟨q, 0, none⟩ = some (.int .i64 at')) :
    Calls Try.prog 28 #[v, .func (.func 29) #[] #[.pointer (some ⟨p, 0, none⟩), .pointer (some ⟨q, 0, none⟩)]] w fun e w' => e = .returned (.bool (takenB rs tid at')) ∧ Below w.heap.size w w' := by
  go_enter Try.func28, Try.ntmps28
  go_wp2_with fail
  refine (index_any v rs tid at' p q w h hN h1 h2).mono ?_
  rintro e w1 ⟨⟨i, rfl, hi⟩, hb⟩
  have B := Lib.hid hb
  have HI := Lib.hid hi
  clear hi hb
  go_wp2_with fail
  go_ret
  exact ⟨by rw [← HI.out]; rfl, B.out⟩

theorem taken_any (B b : Nat) (v : Value) (rs : List Rec) (tid at' : Int) (w : World) (h : Tb B w b v rs) (hN : rs.length ≤ 1000) :
    Calls Try.prog 23 #[.pointer (some ⟨b, 0, none⟩), .int .i64 tid, .int .i64 at'] w fun e w' => e = .returned (.bool (takenB rs tid at')) ∧ Below w.heap.size w w' := by
  obtain ⟨W, hW⟩ : ∃ W, (w.alloc (.cells #[.int .i64 tid] 3)).alloc (.cells #[.int .i64 at'] 3) = W := ⟨_, rfl⟩
  have BW : Below w.heap.size w W := by rw [← hW]; exact ((Below.refl _ _).alloc (Nat.le_refl _) _).alloc (by rw [size_alloc]; omega) _
  have l1 : W.cell? ⟨w.heap.size, 0, none⟩ = some (.int .i64 tid) := by
    have : W.heap[w.heap.size]? = some (.cells #[.int .i64 tid] 3 (0, 0)) := by rw [← hW, heap_alloc_old _ _ (by rw [size_alloc]; omega)]; exact heap_alloc_new w _
    simp only [World.cell?, this]; rfl
  have l2 : W.cell? ⟨w.heap.size + 1, 0, none⟩ = some (.int .i64 at') := by
    have : W.heap[w.heap.size + 1]? = some (.cells #[.int .i64 at'] 3 (0, 0)) := by rw [← hW]; have := heap_alloc_new (w.alloc (.cells #[.int .i64 tid] 3)) (.cells #[.int .i64 at'] 3); rwa [size_alloc] at this
    simp only [World.cell?, this]; rfl
  have H := Lib.hid (h.below BW).rs
  have HB := Lib.hid BW
  have HW := Lib.hid hW
  have L1 := Lib.hid l1
  have L2 := Lib.hid l2
  have c0 : ((w.alloc (.cells #[.int .i64 tid] 3)).alloc (.cells #[.int .i64 at'] 3)).cell? ⟨b, 0, none⟩ = some v := by rw [hW]; exact (h.below BW).c0
  clear h BW hW l1 l2
  go_enter Try.func23, Try.ntmps23
  go_wp2_with fail
  rw [HW.out]
  refine (contains_any v rs tid at' _ _ W H.out hN L1.out L2.out).mono ?_
  rintro e w1 ⟨rfl, hb⟩
  have B1 := Lib.hid (below_trans HB.out hb HB.out.size)
  clear hb
  obtain ⟨x, hx⟩ : ∃ x, takenB rs tid at' = x := ⟨_, rfl⟩
  rw [hx]
  have HX := Lib.hid hx
  clear hx
  go_wp2_with fail
  go_ret
  exact ⟨by rw [HX.out]; rfl, B1.out⟩
end Go.Proofs.Ytmhonibalgddcaa

