
/-
  staithelaw21.does: a step of both tables.
-/
import Derived.Test.YtmhonibalgddcaaRemArg
namespace Go.Proofs.Ytmhonibalgddcaa
open Go.RowKit
set_option linter.unusedVariables false
set_option linter.unusedSimpArgs false
set_option maxRecDepth 100000

/-- Both tables, alike. -/
structure Bo (B : Nat) (w : World) (b : Nat) (v : Value) (c : Nat) (u : Value) (ps rs : List Rec) : Prop where
  tb : Tb B w b v ps
  rt : Rt B w c u rs
  srt : Srt ps
  perm : ps.Perm rs
  bw : B ≤ w.heap.size
  nn : ∀ r, r ∈ ps → 0 ≤ r.g
theorem Bo.below {B : Nat} {w w' : World} {b c : Nat} {v u : Value} {ps rs : List Rec} (h : Bo B w b v c u ps rs) (hB : Below w.heap.size w w') : Bo B w' b v c u ps rs :=
  ⟨h.tb.below hB, h.rt.below hB, h.srt, h.perm, Nat.le_trans h.bw hB.size, h.nn⟩
theorem Bo.drew {B : Nat} {w : World} {b c : Nat} {v u : Value} {ps rs : List Rec} (h : Bo B w b v c u ps rs) : Bo B w.drew b v c u ps rs :=
  ⟨h.tb.drew, ⟨h.rt.blk, h.rt.low, h.rt.row, h.rt.pos⟩, h.srt, h.perm, h.bw, h.nn⟩
/-- Which blocks stay. -/
def Kb (b : Nat) (v : Value) (c : Nat) (u : Value) (w w' : World) : Prop := ∀ k, k < w.heap.size → k ≠ b → some k ≠ v.ownBlock → k ≠ c → some k ≠ u.ownBlock → w'.heap[k]? = w.heap[k]?
theorem Bo.lt {B : Nat} {w : World} {b c : Nat} {v u : Value} {ps rs : List Rec} (h : Bo B w b v c u ps rs) {k : Nat} (hk : w.heap.size ≤ k) : k ≠ b ∧ some k ≠ v.ownBlock ∧ k ≠ c ∧ some k ≠ u.ownBlock := by
  have h1 := lt_of_heap h.tb.blk
  have h2 := lt_of_heap h.rt.blk
  refine ⟨by omega, fun e => ?_, by omega, fun e => ?_⟩
  · have := (h.tb.row.lt k e.symm).2; omega
  · have := (h.rt.row.lt k e.symm).2; omega

/-- Behind a step of the program's table alone. -/
def M1 (B b c : Nat) (v u : Value) (rs : List Rec) (Z : List Rec → Prop) (w w' : World) : Prop :=
  OthT 52 32 B b v w w' ∧ Rt B w' c u rs ∧ B ≤ w'.heap.size ∧ ∃ v' ps', Tb B w' b v' ps' ∧ Srt ps' ∧ Z ps'
/-- Behind a step of both. -/
def M2 (B b c : Nat) (v u : Value) (ps rs : List Rec) (w w' : World) : Prop :=
  Below B w w' ∧ Kb b v c u w w' ∧ ∃ v' u' ps' rs', Bo B w' b v' c u' ps' rs' ∧ rs'.length ≤ rs.length + 1 ∧ Grows ps ps'

theorem m1_of {B b c : Nat} {v u : Value} {rs : List Rec} {Z : List Rec → Prop} {w w' : World} (hr : Rt B w c u rs) (hB : B ≤ w.heap.size) (h : OthT 52 32 B b v w w') (h2 : ∃ v' ps', Tb B w' b v' ps' ∧ Srt ps' ∧ Z ps') : M1 B b c v u rs Z w w' :=
  ⟨h, hr.keep (h.2.1 _ (by decide) (by decide)) (h.2.1 _ (by decide) (by decide)), Nat.le_trans hB h.size, h2⟩
theorem m2_of {B b c : Nat} {v u : Value} {ps rs rs' : List Rec} {Z : List Rec → Prop} {w w1 w2 : World} {u' : Value} (hbw : B ≤ w.heap.size) (h : M1 B b c v u rs Z w w1) (ho : OthT 40 36 B c u w1 w2) (hr : Rt B w2 c u' rs')
    (hl : rs'.length ≤ rs.length + 1) (hz : ∀ ps', Srt ps' → Z ps' → ps'.Perm rs' ∧ Grows ps ps' ∧ ∀ r, r ∈ ps' → 0 ≤ r.g) : M2 B b c v u ps rs w w2 := by
  obtain ⟨h1, h2, h3, v', ps', h4, h5, h6⟩ := h
  obtain ⟨z1, z2, z3⟩ := hz ps' h5 h6
  exact ⟨h1.1.trans ho.1, fun k hk k1 k2 k3 k4 => (ho.2.2 k (Nat.lt_of_lt_of_le hk h1.size) k3 k4).trans (h1.2.2 k hk k1 k2), v', u', ps', rs', ⟨h4.keep (ho.2.1 _ (by decide) (by decide)) (ho.2.1 _ (by decide) (by decide)), hr, h5, z1, Nat.le_trans h3 ho.size, z3⟩, hl, z2⟩

theorem born_pair {B b c : Nat} {v u : Value} {ps rs : List Rec} {w : World} (h : Bo B w b v c u ps rs) (hN : ps.length ≤ 999) (g n a : Int) :
    Calls Try.prog 17 #[.pointer (some ⟨b, 0, none⟩), .int .i64 g, .int .i64 n, .int .i64 a] w (fun e w1 => e = .returned (.int .i64 (bornE ps g n a)) ∧ M1 B b c v u rs (fun ps' => (bornE ps g n a = 0 → ps'.Perm (bornR g n a :: ps)) ∧ (bornE ps g n a ≠ 0 → ps' = ps)) w w1) ∧
    ∀ w1, M1 B b c v u rs (fun ps' => (bornE ps g n a = 0 → ps'.Perm (bornR g n a :: ps)) ∧ (bornE ps g n a ≠ 0 → ps' = ps)) w w1 →
      Calls Try.prog 19 #[.pointer (some ⟨c, 0, none⟩), .int .i64 g, .int .i64 n, .int .i64 a] w1 (fun e w2 => e = .returned (.int .i64 (bornE ps g n a)) ∧ M2 B b c v u ps rs w w2) := by
  have hl := h.perm.length_eq
  have he := bornE_perm h.perm (nd_of_srt h.srt) g n a
  refine ⟨(born_any B b v ps g n a w h.tb h.bw h.srt (by omega)).mono ?_, fun w1 hm => (rborn_any B c u rs g n a w1 hm.2.1 hm.2.2.1 (by omega)).mono ?_⟩
  · rintro e w1 ⟨rfl, ho, hx⟩
    exact ⟨rfl, m1_of h.rt h.bw ho hx⟩
  · rintro e w2 ⟨rfl, ho, u', hr⟩
    refine ⟨by rw [he], m2_of h.bw hm ho hr ?_ (fun ps' hs hz => ?_)⟩
    · unfold rbornL; split <;> simp
    · by_cases h0 : bornE ps g n a = 0
      · have hp := hz.1 h0
        refine ⟨?_, grows_born hp (nd_of_srt hs), fun r hr => ?_⟩
        · unfold rbornL
          rw [if_pos (by rw [← he]; exact h0)]
          exact hp.trans ((h.perm.cons _).trans (List.perm_append_singleton _ _).symm)
        · have := hp.mem_iff.1 hr
          rw [List.mem_cons] at this
          rcases this with rfl | hr
          · exact (bornE_zero h0).1
          · exact h.nn r hr
      · have hp := hz.2 h0
        subst hp
        refine ⟨?_, Grows.refl _, h.nn⟩
        unfold rbornL
        rw [if_neg (by rw [← he]; exact h0)]
        exact h.perm

theorem gone_pair {B b c : Nat} {v u : Value} {ps rs : List Rec} {w : World} (h : Bo B w b v c u ps rs) (hN : ps.length ≤ 999) (g a n : Int) :
    Calls Try.prog 18 #[.pointer (some ⟨b, 0, none⟩), .int .i64 g, .int .i64 a, .int .i64 n] w (fun e w1 => e = .returned (.int .i64 (goneE ps g a n)) ∧ M1 B b c v u rs (fun ps' => (goneE ps g a n = 0 → GoneTo ps ps' g a n) ∧ (goneE ps g a n ≠ 0 → ps' = ps)) w w1) ∧
    ∀ w1, M1 B b c v u rs (fun ps' => (goneE ps g a n = 0 → GoneTo ps ps' g a n) ∧ (goneE ps g a n ≠ 0 → ps' = ps)) w w1 →
      Calls Try.prog 20 #[.pointer (some ⟨c, 0, none⟩), .int .i64 g, .int .i64 a, .int .i64 n] w1 (fun e w2 => e = .returned (.int .i64 (goneE ps g a n)) ∧ M2 B b c v u ps rs w w2) := by
  have hl := h.perm.length_eq
  have he := goneE_perm h.perm (nd_of_srt h.srt) g a n
  refine ⟨(gone_any B b v ps g a n w h.tb h.bw h.srt (by omega)).mono ?_, fun w1 hm => (rgone_any B c u rs g a n w1 hm.2.1 hm.2.2.1 (by omega)).mono ?_⟩
  · rintro e w1 ⟨rfl, ho, hx⟩
    exact ⟨rfl, m1_of h.rt h.bw ho hx⟩
  · rintro e w2 ⟨rfl, ho, u', rs', hr, hr1, hr2⟩
    refine ⟨by rw [he], m2_of h.bw hm ho hr ?_ (fun ps' hs hz => ?_)⟩
    · by_cases h0 : goneE rs g a n = 0
      · obtain ⟨r, x, y, _, rfl, rfl⟩ := hr1 h0
        simp
      · rw [hr2 h0]; omega
    · by_cases h0 : goneE ps g a n = 0
      · have hp := hz.1 h0
        refine ⟨goneTo_perm h.perm (nd_of_srt h.srt) hp (hr1 (by rw [← he]; exact h0)), grows_gone h0 hp (nd_of_srt hs), fun r hr => ?_⟩
        obtain ⟨x, y, z, lx, rfl, rfl⟩ := hp
        rw [List.mem_append, List.mem_cons] at hr
        rcases hr with hr | rfl | hr
        · exact h.nn r (by simp [hr])
        · exact h.nn x (by simp)
        · exact h.nn r (by simp [hr])
      · have hp := hz.2 h0
        subst hp
        rw [hr2 (by rw [← he]; exact h0)]
        exact ⟨h.perm, Grows.refl _, h.nn⟩

def DoesPost (B b c : Nat) (v u : Value) (ps rs : List Rec) (w : World) (e : Ending) (w' : World) : Prop := e = .returned (.bool true) ∧ M2 B b c v u ps rs w w'
set_option maxHeartbeats 2000000 in
theorem does_any (B b c : Nat) (v u : Value) (ps rs : List Rec) (s : Stp) (w : World) (h : Bo B w b v c u ps rs) (hN : ps.length ≤ 999) :
    Calls Try.prog 10 #[.pointer (some ⟨b, 0, none⟩), .pointer (some ⟨c, 0, none⟩), stpV s] w (DoesPost B b c v u ps rs w) := by
  obtain ⟨wh, g, n, a⟩ := s
  unfold stpV
  dsimp only
  obtain ⟨W0, hW0⟩ : ∃ W0, w.alloc (.cells #[.int .i64 wh, .int .i64 g, .int .i64 n, .int .i64 a] 29) = W0 := ⟨_, rfl⟩
  have HS0 : W0.heap[w.heap.size]? = some (.cells #[.int .i64 wh, .int .i64 g, .int .i64 n, .int .i64 a] 29 (0, 0)) := by rw [← hW0]; exact heap_alloc_new w _
  have BW0 : Below w.heap.size w W0 := by rw [← hW0]; exact (Below.refl _ _).alloc (Nat.le_refl _) _
  have HW := Lib.hid hW0
  have HB := Lib.hid BW0
  have H0 := Lib.hid (h.below BW0)
  have fin : ∀ w', M2 B b c v u ps rs W0.drew w' → DoesPost B b c v u ps rs w (.returned (.bool true)) w' := fun w' hm => ⟨rfl, (BW0.mono h.bw).trans (show Below B W0 w' from ⟨hm.1.os, hm.1.tape, hm.1.output, hm.1.size, hm.1.block⟩), fun k hk k1 k2 k3 k4 => (hm.2.1 k (Nat.lt_of_lt_of_le hk BW0.size) k1 k2 k3 k4).trans (BW0.block k hk), hm.2.2⟩
  have fin0 : DoesPost B b c v u ps rs w (.returned (.bool true)) W0 := ⟨rfl, BW0.mono h.bw, fun k hk _ _ _ _ => BW0.block k hk, v, u, ps, rs, h.below BW0, by omega, Grows.refl _⟩
  have FIN := Lib.hid fin
  have FIN0 := Lib.hid fin0
  have z0 : W0.cell? ⟨w.heap.size, 0, none⟩ = some (.int .i64 wh) := by simp only [World.cell?, HS0]; rfl
  have z1 : W0.cell? ⟨w.heap.size, 1, none⟩ = some (.int .i64 g) := by simp only [World.cell?, HS0]; rfl
  have z2 : W0.cell? ⟨w.heap.size, 2, none⟩ = some (.int .i64 n) := by simp only [World.cell?, HS0]; rfl
  have z3 : W0.cell? ⟨w.heap.size, 3, none⟩ = some (.int .i64 a) := by simp only [World.cell?, HS0]; rfl
  have keep : ∀ w', (∀ e, e ≠ 52 → e ≠ 32 → KeepT e W0.drew w') → w'.cell? ⟨w.heap.size, 1, none⟩ = some (.int .i64 g) ∧ w'.cell? ⟨w.heap.size, 2, none⟩ = some (.int .i64 n) ∧ w'.cell? ⟨w.heap.size, 3, none⟩ = some (.int .i64 a) := fun w' hk => by
    have := (hk 29 (by decide) (by decide) w.heap.size _ _ HS0).trans HS0
    refine ⟨?_, ?_, ?_⟩ <;> (simp only [World.cell?, this]; rfl)
  have keep2 : ∀ w', M2 B b c v u ps rs W0.drew w' → w'.cell? ⟨w.heap.size, 1, none⟩ = some (.int .i64 g) ∧ w'.cell? ⟨w.heap.size, 2, none⟩ = some (.int .i64 n) ∧ w'.cell? ⟨w.heap.size, 3, none⟩ = some (.int .i64 a) := fun w' hm => by
    obtain ⟨k1, k2, k3, k4⟩ := h.lt (Nat.le_refl _)
    have := (hm.2.1 w.heap.size (lt_of_heap HS0) k1 k2 k3 k4).trans HS0
    refine ⟨?_, ?_, ?_⟩ <;> (simp only [World.cell?, this]; rfl)
  have KP := Lib.hid keep
  have KP2 := Lib.hid keep2
  clear hW0 HS0 BW0 fin fin0 keep keep2 h
  by_cases h01 : wh = 0 ∨ wh = 1
  · obtain ⟨P1, P2⟩ := born_pair H0.out.drew hN g n a
    obtain ⟨x, hx⟩ : ∃ x, bornE ps g n a = x := ⟨_, rfl⟩
    rw [hx] at P1 P2
    have Q1 := Lib.hid P1
    have Q2 := Lib.hid P2
    clear P1 P2 hx
    rcases h01 with rfl | rfl <;> (
      go_enter Try.func10, Try.ntmps10
      go_wp2_with fail
      rw [HW.out]
      go_region_held3 (fun w' => w'.cell? ⟨w.heap.size, 1, none⟩ = some (.int .i64 g) ∧ w'.cell? ⟨w.heap.size, 2, none⟩ = some (.int .i64 n) ∧ w'.cell? ⟨w.heap.size, 3, none⟩ = some (.int .i64 a)) (go_keep)
        (first | (go_at_call 17; (with_reducible refine Q1.out.mono ?_); rintro r w6 ⟨rfl, m6⟩; obtain ⟨e1, e2, e3⟩ := KP.out _ m6.1.2.1; have M6 := Lib.hid m6; clear m6) | (go_at_call 19; (with_reducible refine (Q2.out w6 M6.out).mono ?_); rintro r w7 ⟨rfl, m7⟩; obtain ⟨f1, f2, f3⟩ := KP2.out _ m7; have M7 := Lib.hid (FIN.out _ m7); clear m7))
      all_goals
        go_wp2_with fail
        go_ret
        exact M7.out)
  · by_cases h23 : wh = 2 ∨ wh = 3
    · obtain ⟨P1, P2⟩ := gone_pair H0.out.drew hN g a n
      obtain ⟨x, hx⟩ : ∃ x, goneE ps g a n = x := ⟨_, rfl⟩
      rw [hx] at P1 P2
      have Q1 := Lib.hid P1
      have Q2 := Lib.hid P2
      clear P1 P2 hx h01
      rcases h23 with rfl | rfl <;> (
        go_enter Try.func10, Try.ntmps10
        go_wp2_with fail
        rw [HW.out]
        go_region_held3 (fun w' => w'.cell? ⟨w.heap.size, 1, none⟩ = some (.int .i64 g) ∧ w'.cell? ⟨w.heap.size, 2, none⟩ = some (.int .i64 n) ∧ w'.cell? ⟨w.heap.size, 3, none⟩ = some (.int .i64 a)) (go_keep)
          (first | (go_at_call 18; (with_reducible refine Q1.out.mono ?_); rintro r w6 ⟨rfl, m6⟩; obtain ⟨e1, e2, e3⟩ := KP.out _ m6.1.2.1; have M6 := Lib.hid m6; clear m6) | (go_at_call 20; (with_reducible refine (Q2.out w6 M6.out).mono ?_); rintro r w7 ⟨rfl, m7⟩; obtain ⟨f1, f2, f3⟩ := KP2.out _ m7; have M7 := Lib.hid (FIN.out _ m7); clear m7))
        all_goals
          go_wp2_with fail
          go_ret
          exact M7.out)
    · have n0 : ¬ (wh = 0) := fun e => h01 (.inl e)
      have n1 : ¬ (wh = 1) := fun e => h01 (.inr e)
      have n2 : ¬ (wh = 2) := fun e => h23 (.inl e)
      have n3 : ¬ (wh = 3) := fun e => h23 (.inr e)
      clear h01 h23
      go_enter Try.func10, Try.ntmps10
      go_wp2_with fail
      rw [HW.out]
      go_ret
      exact FIN0.out
end Go.Proofs.Ytmhonibalgddcaa

