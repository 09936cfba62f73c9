
/-
  Package remap: Owner; the reference's Has, At.
-/
import Derived.Test.YtmhonibalgddcaaRemE
namespace Go.Proofs.Ytmhonibalgddcaa
open Go.RowKit
set_option linter.unusedVariables false
set_option linter.unusedSimpArgs false
set_option maxRecDepth 100000

def hasB (r : Rec) (tid at' : Int) : Bool := decide (r.tid = tid) && decide (r.frm ≤ at') && (!r.gone || decide (at' < r.till))
theorem has_cases (r : Rec) (tid at' : Int) :
    (hasB r tid at' = false ∧ (r.tid ≠ tid ∨ (r.tid = tid ∧ at' < r.frm) ∨ (r.tid = tid ∧ r.frm ≤ at' ∧ r.gone = true ∧ ¬ (at' < r.till)))) ∨
    (hasB r tid at' = true ∧ ((r.tid = tid ∧ r.frm ≤ at' ∧ r.gone = false) ∨ (r.tid = tid ∧ r.frm ≤ at' ∧ r.gone = true ∧ at' < r.till))) := by
  unfold hasB
  by_cases h1 : r.tid = tid
  · by_cases h2 : r.frm ≤ at'
    · cases h3 : r.gone with
      | false => exact .inr ⟨by simp [h1, h2], .inl ⟨h1, h2, rfl⟩⟩
      | true =>
        by_cases h4 : at' < r.till
        · exact .inr ⟨by simp [h1, h2, h4], .inr ⟨h1, h2, rfl, h4⟩⟩
        · exact .inl ⟨by simp [h1, h2, h4], .inr (.inr ⟨h1, h2, rfl, h4⟩)⟩
    · exact .inl ⟨by simp [h1, h2], .inr (.inl ⟨h1, by omega⟩)⟩
  · exact .inl ⟨by simp [h1], .inl h1⟩

theorem has_any (r : Rec) (tid at' : Int) (w : World) : Calls Try.prog 16 #[recV r, .int .i64 tid, .int .i64 at'] w fun e w' => e = .returned (.bool (hasB r tid at')) ∧ Below w.heap.size w w' := by
  unfold recV
  rcases has_cases r tid at' with ⟨hv, h⟩ | ⟨hv, h⟩
  · rw [hv]
    clear hv
    rcases h with h1 | ⟨h1, h2⟩ | ⟨h1, h2, h3, h4⟩ <;> (
      go_enter Try.func16, Try.ntmps16
      go_wp2_with fail
      go_ret
      exact ⟨rfl, (Below.refl _ _).alloc (Nat.le_refl _) _⟩)
  · rw [hv]
    clear hv
    rcases h with ⟨h1, h2, h3⟩ | ⟨h1, h2, h3, h4⟩ <;> (
      go_enter Try.func16, Try.ntmps16
      go_wp2_with fail
      go_ret
      exact ⟨rfl, (Below.refl _ _).alloc (Nat.le_refl _) _⟩)

/-- Whose a tid is. -/
def ownOut (rs : List Rec) (tid at' : Int) : Int × Bool := match rs.find? (fun r => hasB r tid at') with | some r => (r.g, true) | none => (0, false)
def OwnPost (x : Int × Bool) (w : World) (e : Ending) (w' : World) : Prop := e = .returned (.tuple #[.int .i64 x.1, .bool x.2]) ∧ Below w.heap.size w w'
theorem own_some : ∀ {rs : List Rec} {tid at' : Int} {k : Nat}, k < rs.length → hasB (rs.getD k default) tid at' = true → (∀ j, j < k → hasB (rs.getD j default) tid at' = false) → rs.find? (fun r => hasB r tid at') = some (rs.getD k default)
  | [], _, _, k, hk, _, _ => by simp at hk
  | r :: rs, tid, at', 0, _, h, _ => by
    have h' : hasB r tid at' = true := h
    simp [h']
  | r :: rs, tid, at', k + 1, hk, h, hb => by
    have h0 : hasB r tid at' = false := hb 0 (by omega)
    have := own_some (rs := rs) (k := k) (by simpa using hk) h (fun j hj => hb (j + 1) (by omega))
    simp only [List.find?_cons, h0]
    exact this
theorem own_none {rs : List Rec} {tid at' : Int} (h : ∀ j, j < rs.length → hasB (rs.getD j default) tid at' = false) : rs.find? (fun r => hasB r tid at') = none := by
  rw [List.find?_eq_none]
  intro r hr
  obtain ⟨j, hj, rfl⟩ := List.getElem_of_mem hr
  have := h j hj
  rw [List.getD_eq_getElem?_getD, List.getElem?_eq_getElem hj] at this
  simpa using this

theorem owner_nil (tid at' : Int) (w : World) : Calls Try.prog 15 #[.pointer none, .int .i64 tid, .int .i64 at'] w (OwnPost (0, false) w) := by
  go_enter Try.func15, Try.ntmps15
  go_wp2_with fail
  refine (all_nil w).mono ?_
  rintro e w1 ⟨rfl, rfl⟩
  go_wp2_with fail
  go_loopw [13] (fun i wr => i = .int .i64 0 ∧ Below w.heap.size w wr) (fun i _ => 0)
  case atStart => exact ⟨rfl, Below.refl _ _⟩
  case round =>
    obtain ⟨rfl, hb⟩ := hrel
    go_wp2_with fail
    go_ret2
    exact ⟨rfl, hb⟩

set_option maxHeartbeats 1000000 in
theorem owner_any (B b : Nat) (v : Value) (rs : List Rec) (tid at' : Int) (w : World) (h : Tb B w b v rs) (hN : rs.length ≤ 1000) :
    Calls Try.prog 15 #[.pointer (some ⟨b, 0, none⟩), .int .i64 tid, .int .i64 at'] w (OwnPost (ownOut rs tid at') w) := by
  have H := Lib.hid h
  clear h
  go_enter Try.func15, Try.ntmps15
  go_wp2_with fail
  refine (all_any B b v rs w H.out hN).mono ?_
  rintro e w1 ⟨v', rfl, hr, hb1⟩
  obtain ⟨ao, cap, rfl, hc⟩ := hr
  have HC := Lib.hid hc
  have HB1 := Lib.hid hb1
  obtain ⟨n, hn⟩ : ∃ n, rs.length = n := ⟨_, rfl⟩
  rw [hn] at hN
  have HN := Lib.hid hn
  rw [hn]
  clear hc hn hb1
  go_wp2_with fail
  go_loopw [13] (fun i wr => ∃ k : Nat, k ≤ n ∧ i = .int .i64 k ∧ (∀ j, j < k → hasB (rs.getD j default) tid at' = false) ∧ Below w1.heap.size w1 wr) (fun i _ => n - (intOf i).toNat)
  case atStart => exact ⟨0, by omega, rfl, fun j hj => by omega, Below.refl _ _⟩
  case round =>
    obtain ⟨k, hk, rfl, hp, hb⟩ := hrel
    have K := Lib.hid hp
    have HB := Lib.hid hb
    clear hp hb
    by_cases hlt : k < n
    · have hlt' : (k : Int) < (n : Int) := by omega
      obtain ⟨b', o, rfl, hcc⟩ := HC.out (by have := HN.out; omega)
      obtain ⟨c0, c1, c2, c3, c4, c5⟩ := (hcc k (by have := HN.out; omega)).below (Nat.le_refl _) HB.out
      obtain ⟨r, hrr⟩ : ∃ r, rs.getD k default = r := ⟨_, rfl⟩
      rw [hrr] at c0 c1 c2 c3 c4 c5
      have RR := Lib.hid hrr
      have HA := Lib.hid (show ∀ X, Below w1.heap.size w1 (wr.alloc X) from fun X => HB.out.alloc HB.out.size X)
      clear hrr hcc
      rcases has_cases r tid at' with ⟨hv, h⟩ | ⟨hv, h⟩
      · have T := Lib.hid (show ∀ j, j < k + 1 → hasB (rs.getD j default) tid at' = false from fun j hj => by
          by_cases hjk : j = k
          · subst hjk; rw [RR.out]; exact hv
          · exact K.out j (by omega))
        clear hv
        rcases h with h1 | ⟨h1, h2⟩ | ⟨h1, h2, h3, h4⟩ <;> (
          go_wp2_with fail
          go_roundw
          case rel => exact ⟨k + 1, by omega, by go_num, T.out, HA.out _⟩
          case measure => simp [intOf] <;> omega)
      · have T := Lib.hid (show ownOut rs tid at' = (r.g, true) from by unfold ownOut; rw [own_some (k := k) (by have := HN.out; omega) (by rw [RR.out]; exact hv) K.out, RR.out])
        clear hv
        rcases h with ⟨h1, h2, h3⟩ | ⟨h1, h2, h3, h4⟩ <;> (
          go_wp2_with fail
          go_ret2
          exact ⟨by rw [T.out]; rfl, below_trans HB1.out (HA.out _) HB1.out.size⟩)
    · have hge : (n : Int) ≤ k := by omega
      have T := Lib.hid (show ownOut rs tid at' = (0, false) from by unfold ownOut; rw [own_none (fun j hj => K.out j (by have := HN.out; omega))])
      clear hlt
      go_wp2_with fail
      go_ret2
      exact ⟨by rw [T.out]; rfl, below_trans HB1.out HB.out HB1.out.size⟩
end Go.Proofs.Ytmhonibalgddcaa

