
/-
  Package staitheref21: Born, Gone.
-/
import Derived.Test.YtmhonibalgddcaaRemI
namespace Go.Proofs.Ytmhonibalgddcaa
open Go.RowKit
set_option linter.unusedVariables false
set_option linter.unusedSimpArgs false
set_option maxRecDepth 100000

theorem rrinfo : (Try.prog.info? 36).map (fun i => (i.zero, i.size, i.bytes)) = some (some (recV default), 6, 48) := by kernel_rfl
theorem held_cases (r : Rec) (tid at' : Int) :
    (heldB r tid at' = false ∧ (r.tid ≠ tid ∨ (r.tid = tid ∧ r.gone = true ∧ ¬ (at' < r.till)))) ∨
    (heldB r tid at' = true ∧ ((r.tid = tid ∧ r.gone = false) ∨ (r.tid = tid ∧ r.gone = true ∧ at' < r.till))) := by
  unfold heldB
  by_cases h1 : r.tid = tid
  · cases h3 : r.gone with
    | false => exact .inr ⟨by simp [h1], .inl ⟨h1, rfl⟩⟩
    | true =>
      by_cases h4 : at' < r.till
      · exact .inr ⟨by simp [h1, h4], .inr ⟨h1, rfl, h4⟩⟩
      · exact .inl ⟨by simp [h1, h4], .inr ⟨h1, rfl, h4⟩⟩
  · exact .inl ⟨by simp [h1], .inl h1⟩
theorem born_ref {rs : List Rec} {g tid at' : Int} (h : badB g tid at' = false) {r : Rec} (h3 : look rs g = some r) : bornE rs g tid at' = 7 := by
  unfold bornE; rw [if_neg (by simp [h]), h3]
  split <;> rfl

/-- A table with one record more. -/
def rbornL (rs : List Rec) (g tid at' : Int) : List Rec := if bornE rs g tid at' = 0 then rs ++ [bornR g tid at'] else rs
def RBornPost (B b : Nat) (v : Value) (rs : List Rec) (g tid at' : Int) (w : World) (e : Ending) (w' : World) : Prop :=
  e = .returned (.int .i64 (bornE rs g tid at')) ∧ OthT 40 36 B b v w w' ∧ ∃ v', Rt B w' b v' (rbornL rs g tid at')

theorem rt_put {B : Nat} {w w' : World} {b : Nat} {v v' : Value} {rs : List Rec} {r : Rec} (h : Rt B w b v rs) (hB : B ≤ w.heap.size)
    (h1 : w'.ownsRow B 36 6 v' (rs.length + 1) (recs rs ++ recL r)) (h2 : (w.alloc (.cells (recL r).toArray 36)).grownBy w' v.ownBlock) :
    w'.cell? ⟨b, 0, none⟩ = some v ∧ w'.frozen? ⟨b, 0, none⟩ = false ∧ Rt B (w'.setCell ⟨b, 0, none⟩ v') b v' (rs ++ [r]) ∧ OthT 40 36 B b v w (w'.setCell ⟨b, 0, none⟩ v') := by
  have hw : Below w.heap.size w (w.alloc (.cells (recL r).toArray 36)) := (Below.refl _ _).alloc (Nat.le_refl _) _
  have h' := h.below hw
  have kp : ∀ e, e ≠ 36 → KeepT e w w' := fun e he => (keepT_below hw).trans (keepT_grown h'.row h2 he)
  have hb := (kp 40 (by decide) _ _ _ h.blk).trans h.blk
  refine ⟨by simp only [World.cell?, hb]; rfl, by simp [World.frozen?, hb], ⟨heap_setCell_same w' b 0 _ _ v' hb, h.low, ?_, by simp⟩, ⟨?_, fun e e1 e2 => (kp e e2).trans (keepT_set hb e1), fun k hk h3 h4 => (heap_setCell_other w' ⟨b, 0, none⟩ k v' h3).trans ((h2.block k (by rw [size_alloc]; omega) h4).trans (hw.block k hk))⟩⟩
  · rw [List.length_append, recs_append, recs_one]
    exact ownsRow_keep h1 (keepT_set (o := 0) (v := v') hb (by decide))
  · have b1 : Below B w (w.alloc (.cells (recL r).toArray 36)) := hw.mono hB
    exact (b1.grown h2 (by rw [size_alloc]; omega) (fun k hk => (h'.row.lt k hk).1)).setCell (by exact h.low) _

set_option maxHeartbeats 1000000 in
theorem rborn_any (B b : Nat) (v : Value) (rs : List Rec) (g tid at' : Int) (w : World) (h : Rt B w b v rs) (hB : B ≤ w.heap.size) (hN : rs.length ≤ 1000) :
    Calls Try.prog 19 #[.pointer (some ⟨b, 0, none⟩), .int .i64 g, .int .i64 tid, .int .i64 at'] w (RBornPost B b v rs g tid at' w) := by
  obtain ⟨i0, hi, hz0, hz1, hz2⟩ := info_parts rrinfo
  have H := Lib.hid h
  clear h
  have bad : ∀ n, bornE rs g tid at' = n → n ≠ 0 → ∀ w3, Below w.heap.size w w3 → RBornPost B b v rs g tid at' w (.returned (.int .i64 n)) w3 := fun n hn h0 w3 h3 =>
    ⟨by rw [hn], OthT.below h3 hB, v, by unfold rbornL; rw [if_neg (by rw [hn]; exact h0)]; exact H.out.below h3⟩
  rcases bad_cases g tid at' with ⟨hv, h⟩ | ⟨hv, h1, h2, h3, h4⟩
  · have T := Lib.hid (bad 1 (born_bad hv) (by decide) w (Below.refl _ _))
    clear hv bad
    rcases h with h1 | ⟨h1, h2⟩ | ⟨h1, h2, h3⟩ | ⟨h1, h2, h3, h4⟩ <;> (
      go_enter Try.func19, Try.ntmps19
      go_wp2_with fail
      go_ret
      exact T.out)
  · have V := Lib.hid hv
    have BAD := Lib.hid bad
    clear hv bad
    go_enter Try.func19, Try.ntmps19
    go_wp2_with fail
    refine (rat_any B b v rs g w H.out hN).mono ?_
    rintro e w1 ⟨rfl, hb1⟩
    have HB1 := Lib.hid hb1
    have H1 := Lib.hid (H.out.below hb1)
    clear hb1
    rcases at_cases rs g with ⟨i, hi1, hi2, hi3, hi4⟩ | ⟨hi2, hi4⟩
    · have T := Lib.hid (BAD.out 7 (born_ref V.out hi4) (by decide) w1 HB1.out)
      rw [hi2]
      clear hi1 hi2 hi3 hi4
      go_wp2_with fail
      go_ret
      exact T.out
    · rw [hi2]
      have LK := Lib.hid hi4
      clear hi2 hi4
      have c0 := H1.out.c0
      obtain ⟨ga, cap, rfl, _, _⟩ := H1.out.shape
      obtain ⟨n, hn⟩ : ∃ n, rs.length = n := ⟨_, rfl⟩
      have H1' := H1
      rw [hn] at hN c0 H1'
      have HN := Lib.hid hn
      clear hn
      go_wp2_with fail
      go_loopw [34] (fun i wr => ∃ k : Nat, k ≤ n ∧ i = .int .i64 k ∧ (∀ j, j < k → heldB (rs.getD j default) tid at' = false) ∧ Below w1.heap.size w1 wr) (fun i _ => n - (intOf i).toNat)
      case atStart => exact ⟨0, by omega, rfl, fun j hj => by omega, Below.refl _ _⟩
      case round =>
        obtain ⟨k, hk, rfl, hp, hb⟩ := hrel
        have K := Lib.hid hp
        have HB := Lib.hid hb
        clear hp hb
        by_cases hlt : k < n
        · have hlt' : (k : Int) < (n : Int) := by omega
          obtain ⟨c0', c1, c2, c3, c4, c5⟩ := (H1'.out.at k (by have := HN.out; omega)).below (Nat.le_refl _) HB.out
          obtain ⟨r, hrr⟩ : ∃ r, rs.getD k default = r := ⟨_, rfl⟩
          rw [hrr] at c0' c1 c2 c3 c4 c5
          have RR := Lib.hid hrr
          have HA := Lib.hid (show ∀ X, Below w1.heap.size w1 (wr.alloc X) from fun X => HB.out.alloc HB.out.size X)
          clear hrr
          rcases held_cases r tid at' with ⟨hv, h⟩ | ⟨hv, h⟩
          · have T := Lib.hid (show ∀ j, j < k + 1 → heldB (rs.getD j default) tid at' = false from fun j hj => by
              by_cases hjk : j = k
              · subst hjk; rw [RR.out]; exact hv
              · exact K.out j (by omega))
            clear hv
            rcases h with h1 | ⟨h1, h2, h3⟩ <;> (
              go_wp2_with fail
              go_roundw
              case rel => exact ⟨k + 1, by omega, by go_num, T.out, HA.out _⟩
              case measure => simp [intOf] <;> omega)
          · have T := Lib.hid (show ∀ X, RBornPost B b (.slice (some ⟨ga, 0, none⟩) rs.length cap) rs g tid at' w (.returned (.int .i64 7)) (wr.alloc X) from fun X => BAD.out 7 (born_taken V.out (idx_some (k := k) (by have := HN.out; omega) (by rw [RR.out]; exact hv) K.out)) (by decide) _ (below_trans HB1.out (HA.out X) HB1.out.size))
            clear hv
            rcases h with ⟨h1, h2⟩ | ⟨h1, h2, h3⟩ <;> (
              go_wp2_with fail
              go_ret
              exact T.out _)
        · have hge : (n : Int) ≤ k := by omega
          have E := Lib.hid (born_ok V.out (idx_none (fun j hj => K.out j (by have := HN.out; omega))) LK.out)
          have H2 := Lib.hid (H1'.out.below HB.out)
          have HB2 := Lib.hid (below_trans HB1.out HB.out HB1.out.size)
          clear hlt
          have c0 := H2.out.c0
          have sz : B ≤ wr.heap.size := Nat.le_trans hB HB2.out.size
          have HA2 : Below wr.heap.size wr (wr.alloc (.cells (recL (bornR g tid at')).toArray 36)) := (Below.refl _ _).alloc (Nat.le_refl _) _
          have HT := Lib.hid (H2.out.below HA2).row
          have HC := Lib.hid (show ∀ j u, (recL (bornR g tid at'))[j]? = some u → (wr.alloc (.cells (recL (bornR g tid at')).toArray 36)).cell? (Addr.add ⟨wr.heap.size, 0, none⟩ j) = some u from fun j u hj => by
            rw [Addr.add_lit]
            simp only [World.cell?, heap_alloc_new, Nat.zero_add]
            simpa using hj)
          clear HA2
          go_wp2_with (at_builtin; refine wpList_append_own _ rfl _ _ 38 rfl B 36 i0 _ 6 48 Try.underlying38 hi hz0 hz1 hz2 rfl (by decide) _ n (recs rs) rfl (show World.ownsRow _ _ _ _ _ _ _ from by have := HT.out; rw [HN.out] at this; exact this) ⟨wr.heap.size, 0, none⟩ 1 1 (recL (bornR g tid at')) rfl rfl HC.out (by have := recs_one_cell [bornR g tid at']; rwa [recs_one] at this) (by unfold maxLen; omega) (by omega) (by rw [size_alloc]; omega) ?_)
          intro v' w3 hr1 hr2 _
          obtain ⟨d0, f0, hT, hO⟩ := rt_put (r := bornR g tid at') H2.out sz (by rw [HN.out]; exact hr1) (by exact hr2)
          have T := Lib.hid (show RBornPost B b (.slice (some ⟨ga, 0, none⟩) rs.length cap) rs g tid at' w (.returned (.int .i64 0)) (w3.setCell ⟨b, 0, none⟩ v') from ⟨by rw [E.out], (OthT.below HB2.out hB).trans hO, v', by unfold rbornL; rw [if_pos E.out]; exact hT⟩)
          obtain ⟨ao, cp, rfl⟩ : ∃ ao cp, v' = .slice ao (n + 1) cp := by
            rcases hr1.2 with ⟨hv, h0⟩ | ⟨g, cap, cur, hv, _⟩
            · omega
            · exact ⟨_, _, hv⟩
          clear hr1 hr2 hT hO
          go_wp2_with fail
          go_ret
          exact T.out
end Go.Proofs.Ytmhonibalgddcaa

