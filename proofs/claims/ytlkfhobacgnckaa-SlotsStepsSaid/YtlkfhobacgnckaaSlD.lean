
/-
  Package slots: due, fetch.
-/
import Derived.Test.YtlkfhobacgnckaaSlC
namespace Go.Proofs.Ytlkfhobacgnckaa
open Go.RowKit
set_option linter.unusedVariables false
set_option linter.unusedSimpArgs false
set_option maxRecDepth 100000

theorem SlAt.cells {B s : Nat} {w : World} {F : Nat → Option Ck} {vS vR : Value} {sb rb : List Nat} {cb : Option Nat} {M : Md} (h : SlAt B s w F vS vR sb rb cb M) :
    (w.cell? ⟨s, 0, none⟩ = some (.int .i64 (M.size : Nat)) ∧ w.cell? ⟨s, 1, none⟩ = some vS ∧ w.cell? ⟨s, 2, none⟩ = some vR ∧ w.cell? ⟨s, 3, none⟩ = some (.int .i64 (M.sn : Nat)) ∧ w.cell? ⟨s, 4, none⟩ = some (.int .i64 (M.rn : Nat)) ∧ w.cell? ⟨s, 5, none⟩ = some (.pointer (cb.map fun b => ⟨b, 0, none⟩))) ∧ ∀ o, w.frozen? ⟨s, o, none⟩ = false := by
  have hb := h.blk
  refine ⟨⟨?_, ?_, ?_, ?_, ?_, ?_⟩, fun o => by simp [World.frozen?, hb]⟩ <;> (simp only [World.cell?, hb]; rfl)

theorem due_any {B s : Nat} {w : World} {F : Nat → Option Ck} {vS vR : Value} {sb rb : List Nat} {cb : Option Nat} {M : Md} (h : SlAt B s w F vS vR sb rb cb M) (x : Bool) (hx : M.due = x) :
    Calls Try.prog 33 #[.pointer (some ⟨s, 0, none⟩)] w fun r w' => r = .returned (.bool x) ∧ ∃ n, w' = w.drewN n := by
  obtain ⟨⟨c0, _, _, c3, _, _⟩, hf⟩ := h.cells
  obtain ⟨sz, hsz⟩ : ∃ n, M.size = n := ⟨_, rfl⟩
  obtain ⟨sn, hsn⟩ : ∃ n, M.sn = n := ⟨_, rfl⟩
  unfold Md.due at hx
  rw [hsz, hsn] at hx
  rw [hsz] at c0
  rw [hsn] at c3
  clear hsz hsn h
  by_cases h0 : 0 < sz
  · have h0' : (0 : Int) < sz := by omega
    by_cases h1 : sz ≤ sn
    · have h1' : (sz : Int) ≤ sn := by omega
      have e : x = true := by rw [← hx]; exact decide_eq_true ⟨h0, h1⟩
      subst e
      clear hx
      go_enter Try.func33, Try.ntmps33
      go_wp2_with fail
      go_quiet (fail)
      go_wp2_with fail
      go_ret
      exact ⟨rfl, _, rfl⟩
    · have h1' : (sn : Int) < sz := by omega
      have e : x = false := by rw [← hx]; exact decide_eq_false (fun hh => h1 hh.2)
      subst e
      clear hx
      go_enter Try.func33, Try.ntmps33
      go_wp2_with fail
      go_quiet (fail)
      go_wp2_with fail
      go_ret
      exact ⟨rfl, _, rfl⟩
  · obtain rfl : sz = 0 := by omega
    have e : x = false := by rw [← hx]; exact decide_eq_false (fun hh => h0 hh.1)
    subst e
    clear hx
    go_enter Try.func33, Try.ntmps33
    go_wp2_with fail
    go_quiet (fail)
    go_wp2_with fail
    go_ret
    exact ⟨rfl, _, rfl⟩

theorem fetch_no (s o cap : Nat) (ao : Option Addr) (w : World) (c0 : w.cell? ⟨s, o, none⟩ = some (.slice ao 0 cap)) :
    Calls Try.prog 34 #[.pointer (some ⟨s, o, none⟩)] w fun r w' => r = .returned (.pointer none) ∧ w = w' := by
  go_enter Try.func34, Try.ntmps34
  go_wp2_with fail
  go_ret
  exact ⟨rfl, rfl⟩

def FetchPost (s o b : Nat) (tl : List Nat) (w : World) (r : Ending) (w' : World) : Prop :=
  r = .returned (.pointer (some ⟨b, 0, none⟩)) ∧ ∃ g cap' w1, w' = w1.setCell ⟨s, o, none⟩ (.slice (some ⟨g, 0, none⟩) tl.length cap') ∧ w.heap.size ≤ g ∧ Below w.heap.size w w1 ∧ w1.ownsRow w.heap.size 28 1 (.slice (some ⟨g, 0, none⟩) tl.length cap') tl.length (ptrs tl)

theorem fetch_yes (base s o b : Nat) (tl : List Nat) (v : Value) (w : World) (c0 : w.cell? ⟨s, o, none⟩ = some v) (f0 : w.frozen? ⟨s, o, none⟩ = false)
    (hr : w.ownsRow base 28 1 v (tl.length + 1) (ptrs (b :: tl))) (hl : tl.length ≤ 60000) :
    Calls Try.prog 34 #[.pointer (some ⟨s, o, none⟩)] w (FetchPost s o b tl w) := by
  have hsl := block_lt_of_cell c0
  have hP := PSrc.of_owns (bs := b :: tl) hr
  rcases hr.2 with ⟨rfl, h0⟩ | ⟨g, cap, cur, rfl, hbg, hg, hle, _, hcs, ht⟩
  · omega
  · obtain ⟨ao, cap', e, _, hc⟩ := hP
    cases e
    obtain ⟨g', z, e, hc⟩ := hc (by simp)
    cases e
    have d0 := hc 0 (by simp)
    simp only [Nat.zero_add, List.getD_cons_zero] at d0
    have HC := Lib.hid hc
    obtain ⟨n, hn⟩ : ∃ n, tl.length = n := ⟨_, rfl⟩
    have hle' : n + 1 ≤ cap := by rw [← hn]; simpa using hle
    rw [hn] at c0
    have HN := Lib.hid hn
    clear hc ht hcs hr hbg hg hle
    by_cases h1 : cap = 1
    · subst h1
      obtain rfl : n = 0 := by omega
      obtain rfl : tl = [] := List.eq_nil_of_length_eq_zero hn
      clear hn HN
      have P1 := Lib.hid (show PSrc w (.slice (some ⟨g, 0, none⟩) 0 0) [] from ⟨_, _, rfl, (fun e => nomatch e), fun hp => by simp at hp⟩)
      go_enter Try.func34, Try.ntmps34
      go_wp2_with (at_builtin; refine wpList_clone_ptrs w _ rfl _ _ rfl rfl rfl _ [] rfl P1.out (by simp) ?_; intro g2 cap2 w2 hg2 hcap2 hB2 hown2; have c1 := (hB2.cell (p := ⟨s, o, none⟩) hsl).trans c0; have f1 := (hB2.frozen (p := ⟨s, o, none⟩) hsl).trans f0; have HB2 := Lib.hid hB2; have HO := Lib.hid hown2; clear hB2 hown2)
      go_ret
      exact ⟨rfl, _, _, _, rfl, hg2, HB2.out, HO.out⟩
    · have h1' : ¬ cap = 1 := by omega
      have P1 := Lib.hid (show PSrc w (.slice (some ⟨g, 1, none⟩) n (cap - 1)) tl from ⟨some ⟨g, 1, none⟩, cap - 1, by rw [HN.out], (fun e => nomatch e), fun hp => ⟨_, _, rfl, fun j hj => by
        have := HC.out (j + 1) (by simpa using hj)
        rw [Nat.zero_add] at this
        rw [Nat.add_comm 1 j, this]
        simp⟩⟩)
      have b1 : (1 : Int) ≤ cap := by omega
      have b2 : ((n : Int) + 1) ≤ cap := by omega
      have hl2 : tl.length ≤ 100000 := by omega
      clear hn HC
      go_enter Try.func34, Try.ntmps34
      go_wp2_with (at_builtin; refine wpList_clone_ptrs w _ rfl _ _ rfl rfl rfl _ tl rfl P1.out hl2 ?_; intro g2 cap2 w2 hg2 hcap2 hB2 hown2; have c1 := (hB2.cell (p := ⟨s, o, none⟩) hsl).trans c0; have f1 := (hB2.frozen (p := ⟨s, o, none⟩) hsl).trans f0; have HB2 := Lib.hid hB2; have HO := Lib.hid hown2; clear hB2 hown2)
      go_ret
      exact ⟨rfl, _, _, _, rfl, hg2, HB2.out, HO.out⟩

end Go.Proofs.Ytlkfhobacgnckaa

