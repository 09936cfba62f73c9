/-
  The walks of the statements of layer 1: each law's call returns true; no old memory is written. No condition but that the numbers are of their kinds.
-/
import Derived.Test.YtdlaokfmelokeaaRef1
import Derived.Deep.RegionHeld3
import Derived.Deep.RegionHeld3
namespace Go.Proofs.Ytdlaokfmelokeaa
open Go.RowKit
set_option linter.unusedVariables false
set_option linter.unusedSimpArgs false

theorem pack_lit (w : World) : Calls Try.prog 10 #[.int .i64 2, .int .i64 7] w fun r w' => r = .returned (.tuple #[.int .u64 12884901895, .int .i64 0]) ∧ w = w' :=
  pack_yes 2 7 w rfl
theorem next_lit (w : World) : Calls Try.prog 13 #[.int .u64 12884901895, .int .i64 7] w fun r w' => r = .returned (.tuple #[.int .u64 0, .int .i64 5]) ∧ w = w' :=
  next_any 12884901895 7 w (by decide) (by decide)
theorem tid_lit (w : World) : Calls Try.prog 15 #[.int .u64 12884901895] w fun r w' => r = .returned (.int .i64 2) ∧ w = w' :=
  tid_any 12884901895 w (by decide) (by decide)
theorem clock_lit (w : World) : Calls Try.prog 14 #[.int .u64 12884901895] w fun r w' => r = .returned (.int .i64 7) ∧ w = w' :=
  clock_any 12884901895 w (by decide) (by decide)

theorem two_any (w : World) : Calls Try.prog 12 #[] w fun r w' => r = .returned (.bool true) ∧ w = w' := by
  go_enter Try.func12, Try.ntmps12
  go_wp2_with (first
    | (go_at_call 10; refine (pack_lit _).mono ?_; rintro r w' ⟨rfl, rfl⟩)
    | (go_at_call 13; refine (next_lit _).mono ?_; rintro r w' ⟨rfl, rfl⟩)
    | (go_at_call 15; refine (tid_lit _).mono ?_; rintro r w' ⟨rfl, rfl⟩)
    | (go_at_call 14; refine (clock_lit _).mono ?_; rintro r w' ⟨rfl, rfl⟩))
  go_ret
  exact ⟨rfl, rfl⟩

theorem read_any (e : Int) (w : World) (h0 : 0 ≤ e) (h1 : e < 18446744073709551616) :
    Calls Try.prog 16 #[.int .u64 e] w (RetB (.tuple #[rE e, .bool (rdk e)]) w) := by
  have hb := u64_low e h0 h1
  go_enter Try.func16, Try.ntmps16
  go_wp2_with fail
  refine (ref_read_any e _ h0 h1).mono ?_
  rintro r w1 ⟨rfl, hb⟩
  have hcc := (bcell hb).1
  have hff := (bcell hb).2
  have hz : w.heap.size < w1.heap.size := by have := hb.size; simp at this; omega
  simp at hcc hff
  go_wp2
  refine bodyPost_ret (v := .tuple #[rE e, .bool (rdk e)]) (by simp [results, Try.results16, go_sem, hcc, hff, hz]) rfl ⟨rfl, ?_⟩
  repeat (refine Below.setCell ?_ (by simp) _)
  exact ((Below.refl _ _).alloc (Nat.le_refl _) _).trans (hb.mono (by simp))

theorem packs_law (t c : Int) (w : World) : Calls Try.prog 3 #[.int .i64 t, .int .i64 c] w (RetB (.bool true) w) := by
  have hbd := packV_bd t c
  have hb := u64_low (packV t c) hbd.1 hbd.2
  have e1 : packV t c / 4294967296 = rpkHi t c := by
    unfold packV rpkHi
    split
    · rename_i h
      obtain ⟨a, b, d, e⟩ := of_decide_eq_true h
      unfold ep; omega
    · rfl
  have e2 : packV t c % 4294967296 = rpkLo t c := by
    unfold packV rpkLo
    split
    · rename_i h
      obtain ⟨a, b, d, e⟩ := of_decide_eq_true h
      unfold ep; omega
    · rfl
  have b1 : 0 ≤ rpkHi t c ∧ rpkHi t c < 4294967296 := by omega
  have b2 : 0 ≤ rpkLo t c ∧ rpkLo t c < 4294967296 := by omega
  obtain ⟨c1, c2⟩ := hbd
  obtain ⟨c3, c4⟩ := b1
  obtain ⟨c5, c6⟩ := b2
  go_enter Try.func3, Try.ntmps3
  go_wp2_with (first
    | (go_at_call 10; refine (pack_any _ _ _).mono ?_; rintro r w' ⟨rfl, rfl⟩)
    | (go_at_call 11; refine (ref_pack_any _ _ _).mono ?_; rintro r w' ⟨rfl, rfl⟩)
    | (go_at_call 12; refine (two_any _).mono ?_; rintro r w' ⟨rfl, rfl⟩))
  go_ret
  exact ⟨rfl, Below.refl _ _⟩


theorem tid0_eq {e : Int} (h : okE e = true) : tid0 e = tidE e ∧ clk0 e = clkE e := by simp [tid0, tidE, clk0, clkE, h]
theorem chk_eq (e : Int) : chkE e = (if rdk e then 0 else 4) := by
  unfold chkE rdk nE xE
  cases h : okE e <;> by_cases a : e = 0 <;> by_cases b : e = 18446744073709551615 <;> simp [a, b]

/-- Behind a call that writes no old memory what was so before is so still. -/
theorem below_next {A W w' : World} (h : Below A.heap.size A W) (hb : Below W.heap.size W w') : Below A.heap.size A w' := h.trans (hb.mono h.size)

theorem held5 {p q r s t : Prop} (h : p ∧ q ∧ r ∧ s ∧ t) : t := h.2.2.2.2
/-- The four cells of a struct of the reference at block g. -/
def EpAt (g : Nat) (e : Int) (w : World) : Prop :=
  w.cell? ⟨g, 0, none⟩ = some (.bool (nE e)) ∧ w.cell? ⟨g, 1, none⟩ = some (.bool (xE e)) ∧ w.cell? ⟨g, 2, none⟩ = some (.int .i64 (tid0 e)) ∧ w.cell? ⟨g, 3, none⟩ = some (.int .i64 (clk0 e))
theorem EpAt.next {g : Nat} {e : Int} {A W : World} (h : EpAt g e A) (hg : g < A.heap.size) (hb : Below A.heap.size A W) : EpAt g e W := by
  obtain ⟨a, b, c, d⟩ := h
  refine ⟨?_, ?_, ?_, ?_⟩
  · rw [hb.cell (p := ⟨g, 0, none⟩) hg]; exact a
  · rw [hb.cell (p := ⟨g, 1, none⟩) hg]; exact b
  · rw [hb.cell (p := ⟨g, 2, none⟩) hg]; exact c
  · rw [hb.cell (p := ⟨g, 3, none⟩) hg]; exact d

theorem seen_law (e c : Int) (w : World) (h0 : 0 ≤ e) (h1 : e < 18446744073709551616) :
    Calls Try.prog 6 #[.int .u64 e, .int .i64 c] w (RetB (.bool true) w) := by
  go_enter Try.func6, Try.ntmps6
  go_wp2_with fail
  refine (read_any e _ h0 h1).mono ?_
  rintro r w1 ⟨rfl, hb⟩
  go_wp2_with fail
  go_region_held3 (fun w' => w'.cell? ⟨w1.heap.size, 0, none⟩ = some (.bool (nE e)) ∧ w'.cell? ⟨w1.heap.size, 1, none⟩ = some (.bool (xE e)) ∧ w'.cell? ⟨w1.heap.size, 2, none⟩ = some (.int .i64 (tid0 e)) ∧ w'.cell? ⟨w1.heap.size, 3, none⟩ = some (.int .i64 (clk0 e)) ∧ Below w.heap.size w w')
    (first | (simp [*]; done) | (refine ⟨by simp [*], by simp [*], by simp [*], by simp [*], ?_⟩; first | exact hb.alloc hb.size _ | exact (hb.alloc hb.size _).drew | assumption))
    (first
      | (go_at_call 17; refine (seen_any e c _ h0 h1).mono ?_; rintro r w' ⟨rfl, rfl⟩)
      | (go_at_call 18; refine (ref_seen_any e c _).mono ?_; rintro r w' ⟨rfl, hb2⟩; have hbn := below_next (held5 (by assumption)) hb2; have hcc := (bcell hb2).1; simp at hcc)
      | (go_at_call 12; refine (two_any _).mono ?_; rintro r w' ⟨rfl, rfl⟩))
  go_wp2
  go_ret
  exact ⟨rfl, by simp [*]⟩


set_option maxHeartbeats 1000000 in
theorem reads_law (e : Int) (w : World) (h0 : 0 ≤ e) (h1 : e < 18446744073709551616) :
    Calls Try.prog 9 #[.int .u64 e] w (RetB (.bool true) w) := by
  have hq := chk_eq e
  cases k : okE e with
  | true =>
    obtain ⟨q1, q2⟩ := tid0_eq k
    have Q := Lib.hid (And.intro q1 (And.intro q2 hq))
    clear q1 q2 hq
    have hp := plE e
    rw [k] at hp
    have P := Lib.hid hp
    clear hp k
    go_enter Try.func9, Try.ntmps9
    go_wp2_with fail
    refine (read_any e _ h0 h1).mono ?_
    rintro r w1 ⟨rfl, hb⟩
    go_wp2_with fail
    refine (ref_plain_val _ _ _ _ _ true P.out _).mono ?_
    rintro r w2 ⟨rfl, hb2⟩
    have hcc := (bcell hb2).1
    have hff := (bcell hb2).2
    have hz : w1.heap.size < w2.heap.size := by have := hb2.size; simp at this; omega
    simp at hcc hff
    obtain ⟨q1, q2, q3⟩ := Q.out
    go_wp2_with (first
      | (go_at_call 15; refine (tid_any _ _ h0 h1).mono ?_; rintro r w' ⟨rfl, rfl⟩)
      | (go_at_call 14; refine (clock_any _ _ h0 h1).mono ?_; rintro r w' ⟨rfl, rfl⟩)
      | (go_at_call 22; refine (check_any _ _ h0 h1).mono ?_; rintro r w' ⟨rfl, rfl⟩)
      | (go_at_call 23; refine (ref_form_any _ _).mono ?_; rintro r w' ⟨rfl, rfl⟩)
      | (go_at_call 12; refine (two_any _).mono ?_; rintro r w' ⟨rfl, rfl⟩))
    all_goals (go_ret; exact ⟨rfl, (hb.alloc hb.size _).trans (hb2.mono (by have := hb.size; simp; omega))⟩)
  | false =>
    have hp := plE e
    rw [k] at hp
    have P := Lib.hid hp
    have t1 : tidE e = -1 := by simp [tidE, k]
    have t2 : clkE e = 0 := by simp [clkE, k]
    have Q := Lib.hid (And.intro t1 (And.intro t2 hq))
    clear t1 t2 hq hp k
    go_enter Try.func9, Try.ntmps9
    go_wp2_with fail
    refine (read_any e _ h0 h1).mono ?_
    rintro r w1 ⟨rfl, hb⟩
    go_wp2_with fail
    refine (ref_plain_val _ _ _ _ _ false P.out _).mono ?_
    rintro r w2 ⟨rfl, hb2⟩
    obtain ⟨q1, q2, q3⟩ := Q.out
    go_wp2_with (first
      | (go_at_call 15; refine (tid_any _ _ h0 h1).mono ?_; rintro r w' ⟨rfl, rfl⟩)
      | (go_at_call 14; refine (clock_any _ _ h0 h1).mono ?_; rintro r w' ⟨rfl, rfl⟩)
      | (go_at_call 22; refine (check_any _ _ h0 h1).mono ?_; rintro r w' ⟨rfl, rfl⟩)
      | (go_at_call 23; refine (ref_form_any _ _).mono ?_; rintro r w' ⟨rfl, rfl⟩)
      | (go_at_call 12; refine (two_any _).mono ?_; rintro r w' ⟨rfl, rfl⟩))
    all_goals (go_ret; exact ⟨rfl, (hb.alloc hb.size _).trans (hb2.mono (by have := hb.size; simp; omega))⟩)

theorem packE_ok {t c : Int} (h : packE t c = 0) : okT t c = true := by
  unfold packE at h
  split at h
  · assumption
  · omega
theorem ep_inj {t c t' c' : Int} (h : okT t c = true) (h' : okT t' c' = true) (he : ep t c = ep t' c') : t = t' ∧ c = c' := by
  obtain ⟨a, b, d, e⟩ := of_decide_eq_true h
  obtain ⟨a', b', d', e'⟩ := of_decide_eq_true h'
  unfold ep at he; omega

set_option maxHeartbeats 1000000 in
theorem apart_law (t c t' c' : Int) (w : World) :
    Calls Try.prog 4 #[.agg #[.int .i64 t, .int .i64 c], .agg #[.int .i64 t', .int .i64 c']] w (RetB (.bool true) w) := by
  cases k1 : okT t c with
  | false =>
    have e1 : packE t c = 1 := by simp [packE, k1]
    have E := Lib.hid e1
    clear e1
    go_enter Try.func4, Try.ntmps4
    go_wp2_with fail
    refine (pack_no _ _ _ k1).mono ?_
    rintro r w' ⟨rfl, rfl⟩
    go_wp2_with (first
      | (go_at_call 10; refine (pack_any _ _ _).mono ?_; rintro r w' ⟨rfl, rfl⟩)
      | (go_at_call 12; refine (two_any _).mono ?_; rintro r w' ⟨rfl, rfl⟩))
    all_goals (go_ret; exact ⟨rfl, ((Below.refl _ _).alloc (Nat.le_refl _) _).alloc (by simp) _⟩)
  | true =>
    cases k2 : okT t' c' with
    | false =>
      go_enter Try.func4, Try.ntmps4
      go_wp2_with fail
      refine (pack_yes _ _ _ k1).mono ?_
      rintro r w' ⟨rfl, rfl⟩
      go_wp2_with fail
      refine (pack_no _ _ _ k2).mono ?_
      rintro r w' ⟨rfl, rfl⟩
      go_wp2_with (go_at_call 12; refine (two_any _).mono ?_; rintro r w' ⟨rfl, rfl⟩)
      all_goals (go_ret; exact ⟨rfl, ((Below.refl _ _).alloc (Nat.le_refl _) _).alloc (by simp) _⟩)
    | true =>
      obtain ⟨a, b, d, e⟩ := of_decide_eq_true k1
      have n1 : (ep t c != 0) = true := by unfold ep; simp; omega
      have n2 : (ep t c != 18446744073709551615) = true := by unfold ep; simp; omega
      have P1 := Lib.hid k1
      have P2 := Lib.hid k2
      clear a b d e
      by_cases q1 : t = t'
      · subst q1
        by_cases q2 : c = c'
        · subst q2
          clear k1 k2
          go_enter Try.func4, Try.ntmps4
          go_wp2_with (first | (go_at_call 10; refine (pack_yes _ _ _ P1.out).mono ?_; rintro r w' ⟨rfl, rfl⟩) | (go_at_call 12; refine (two_any _).mono ?_; rintro r w' ⟨rfl, rfl⟩))
          all_goals (go_ret; exact ⟨rfl, ((Below.refl _ _).alloc (Nat.le_refl _) _).alloc (by simp) _⟩)
        · have q3 : (c == c') = false := by simp [q2]
          have q4 : (ep t c == ep t c') = false := by
            simp; intro h; exact q2 (ep_inj k1 k2 h).2
          clear q2 k1 k2
          go_enter Try.func4, Try.ntmps4
          go_wp2_with (first | (go_at_call_of 10 (Value.int .i64 c); refine (pack_yes _ _ _ P1.out).mono ?_; rintro r w' ⟨rfl, rfl⟩) | (go_at_call 10; refine (pack_yes _ _ _ P2.out).mono ?_; rintro r w' ⟨rfl, rfl⟩) | (go_at_call 12; refine (two_any _).mono ?_; rintro r w' ⟨rfl, rfl⟩))
          all_goals (go_ret; exact ⟨rfl, ((Below.refl _ _).alloc (Nat.le_refl _) _).alloc (by simp) _⟩)
      · have q3 : (t == t') = false := by simp [q1]
        have q4 : (ep t c == ep t' c') = false := by
          simp; intro h; exact q1 (ep_inj k1 k2 h).1
        clear q1 k1 k2
        go_enter Try.func4, Try.ntmps4
        go_wp2_with (first | (go_at_call_of 10 (Value.int .i64 t); refine (pack_yes _ _ _ P1.out).mono ?_; rintro r w' ⟨rfl, rfl⟩) | (go_at_call 10; refine (pack_yes _ _ _ P2.out).mono ?_; rintro r w' ⟨rfl, rfl⟩) | (go_at_call 12; refine (two_any _).mono ?_; rintro r w' ⟨rfl, rfl⟩))
        all_goals (go_ret; exact ⟨rfl, ((Below.refl _ _).alloc (Nat.le_refl _) _).alloc (by simp) _⟩)

/-! The next one, and the order -/
theorem nextV_ok {e m : Int} (h0 : 0 ≤ e) (h1 : e < 18446744073709551616) : 0 ≤ nextV e m ∧ nextV e m < 18446744073709551616 := by
  unfold nextV
  split
  · rename_i h; have := okE_lt h.1; omega
  · omega
theorem next_ok {e m : Int} (k1 : okE e = true) (k2 : cB m = true) (k3 : e % 4294967296 < m) : okE (e + 1) = true ∧ (e + 1) / 4294967296 = e / 4294967296 ∧ (e + 1) % 4294967296 = e % 4294967296 + 1 := by
  obtain ⟨a, b, c, d⟩ := of_decide_eq_true k1
  obtain ⟨m1, m2⟩ := of_decide_eq_true k2
  refine ⟨decide_eq_true ⟨?_, ?_, ?_, ?_⟩, ?_, ?_⟩ <;> omega

theorem below_box {w w1 w2 : World} {o : Obj} (hb : Below w.heap.size w w1) (hb2 : Below (w1.alloc o).heap.size (w1.alloc o) w2) : Below w.heap.size w w2 := below_next (hb.alloc hb.size o) hb2

set_option maxHeartbeats 1000000 in
theorem next_law_no (e m : Int) (w : World) (h0 : 0 ≤ e) (h1 : e < 18446744073709551616) (h : okE e = false ∨ cB m = false) :
    Calls Try.prog 7 #[.int .u64 e, .int .i64 m] w (RetB (.bool true) w) := by
  have hp : (rdk e && !nE e && !xE e) = false ∨ cB m = false := by rw [plE e]; exact h
  have N := Lib.hid (show nextV e m = 0 ∧ nextE e m = 1 by rcases h with h | h <;> simp [nextV, nextE, h])
  have P := Lib.hid hp
  clear hp h
  go_enter Try.func7, Try.ntmps7
  go_wp2_with fail
  refine (read_any e _ h0 h1).mono ?_
  rintro r w1 ⟨rfl, hb⟩
  go_wp2_with fail
  refine (next_any _ _ _ h0 h1).mono ?_
  rintro r w2 ⟨rfl, rfl⟩
  rw [N.out.1, N.out.2]
  go_wp2_with fail
  refine (ref_next_arg _ _ _ _ _ _ _ P.out).mono ?_
  rintro r w2 ⟨rfl, hb2⟩
  go_wp2_with (go_at_call 12; refine (two_any _).mono ?_; rintro r w' ⟨rfl, rfl⟩)
  go_ret
  exact ⟨rfl, (below_box hb hb2).alloc (below_box hb hb2).size _⟩

set_option maxHeartbeats 1000000 in
theorem next_law_full (e m : Int) (w : World) (h0 : 0 ≤ e) (h1 : e < 18446744073709551616) (h : okE e = true) (k2 : cB m = true) (k3 : m ≤ e % 4294967296) :
    Calls Try.prog 7 #[.int .u64 e, .int .i64 m] w (RetB (.bool true) w) := by
  obtain ⟨x1, x2⟩ := okE_nE h
  have N := Lib.hid (show nextV e m = 0 ∧ nextE e m = 5 by simp [nextV, nextE, h, k2, show ¬ (e % 4294967296 < m) by omega])
  have r1 : rdk e = true := by simp [rdk, h]
  have q1 : clk0 e = e % 4294967296 := by simp [clk0, h]
  go_enter Try.func7, Try.ntmps7
  go_wp2_with fail
  refine (read_any e _ h0 h1).mono ?_
  rintro r w1 ⟨rfl, hb⟩
  go_wp2_with fail
  refine (next_any _ _ _ h0 h1).mono ?_
  rintro r w2 ⟨rfl, rfl⟩
  rw [N.out.1, N.out.2]
  go_wp2_with fail
  refine (ref_next_full _ _ _ _ k2 k3).mono ?_
  rintro r w2 ⟨rfl, hb2⟩
  go_wp2_with (go_at_call 12; refine (two_any _).mono ?_; rintro r w' ⟨rfl, rfl⟩)
  go_ret
  exact ⟨rfl, (below_box hb hb2).alloc (below_box hb hb2).size _⟩

set_option maxHeartbeats 1000000 in
theorem next_law_yes (e m : Int) (w : World) (h0 : 0 ≤ e) (h1 : e < 18446744073709551616) (h : okE e = true) (k2 : cB m = true) (k3 : e % 4294967296 < m) :
    Calls Try.prog 7 #[.int .u64 e, .int .i64 m] w (RetB (.bool true) w) := by
  obtain ⟨x1, x2⟩ := okE_nE h
  obtain ⟨n1, n2, n3⟩ := next_ok h k2 k3
  obtain ⟨a, b, c, d⟩ := of_decide_eq_true h
  have N := Lib.hid (show nextV e m = e + 1 ∧ nextE e m = 0 by simp [nextV, nextE, h, k2, k3])
  have r1 : rdk e = true := by simp [rdk, h]
  have q1 : clk0 e = e % 4294967296 := by simp [clk0, h]
  have q2 : tid0 e = e / 4294967296 - 1 := by simp [tid0, h]
  have t1 : tidE (e + 1) = e / 4294967296 - 1 := by simp [tidE, n1, n2]
  have t2 : clkE (e + 1) = e % 4294967296 + 1 := by simp [clkE, n1, n3]
  have t3 : lessB e (e + 1) = true := by simp [lessB, n1, n2, n3, h]; omega
  have T := Lib.hid (And.intro t1 (And.intro t2 t3))
  have h2 := okE_lt h
  have h2' : 0 ≤ e + 1 := by omega
  clear n1 n2 n3 t1 t2 t3
  go_enter Try.func7, Try.ntmps7
  go_wp2_with fail
  refine (read_any e _ h0 h1).mono ?_
  rintro r w1 ⟨rfl, hb⟩
  go_wp2_with fail
  refine (next_any _ _ _ h0 h1).mono ?_
  rintro r w2 ⟨rfl, rfl⟩
  rw [N.out.1, N.out.2]
  go_wp2_with fail
  refine (ref_next_yes _ _ _ _ c d k2 k3).mono ?_
  rintro r w2 ⟨rfl, hb2⟩
  obtain ⟨t1, t2, t3⟩ := T.out
  have hb3 := below_box hb hb2
  clear hb hb2
  go_wp2_with fail
  go_quiet ((first
    | (go_at_call 15; first | exact quiet_left (tid_any _ _ h2' h2) | exact quiet_add_left (tid_any _ _ h2' h2))
    | (go_at_call 14; first | exact quiet_left (clock_any _ _ h2' h2) | exact quiet_add_left (clock_any _ _ h2' h2))
    | (go_at_call 20; first | exact quiet_left (less_any _ _ _ h0 h1 h2' h2) | exact quiet_add_left (less_any _ _ _ h0 h1 h2' h2))
    | (go_at_call 12; first | exact quiet_left (two_any _) | exact quiet_add_left (two_any _))))
  go_wp2
  go_ret
  exact ⟨rfl, below_drewN (hb3.alloc hb3.size _) _⟩

theorem next_law (e m : Int) (w : World) (h0 : 0 ≤ e) (h1 : e < 18446744073709551616) :
    Calls Try.prog 7 #[.int .u64 e, .int .i64 m] w (RetB (.bool true) w) := by
  cases k1 : okE e with
  | false => exact next_law_no e m w h0 h1 (.inl k1)
  | true =>
    cases k2 : cB m with
    | false => exact next_law_no e m w h0 h1 (.inr k2)
    | true =>
      by_cases k3 : e % 4294967296 < m
      · exact next_law_yes e m w h0 h1 k1 k2 k3
      · exact next_law_full e m w h0 h1 k1 k2 (by omega)

theorem lessw (a b : Int) : (decide (tid0 a = tid0 b) && decide (clk0 a < clk0 b) && okE a && okE b) = lessB a b := by
  unfold lessB tid0 clk0
  cases k1 : okE a <;> cases k2 : okE b <;> simp

set_option maxHeartbeats 2000000 in
theorem less_law1 (a b : Int) (w : World) (h0 : 0 ≤ a) (h1 : a < 18446744073709551616) (g0 : 0 ≤ b) (g1 : b < 18446744073709551616) (ka : okE a = false) :
    Calls Try.prog 8 #[.int .u64 a, .int .u64 b] w (RetB (.bool true) w) := by
  have PA := Lib.hid (show (rdk a && !nE a && !xE a) = false by rw [plE, ka])
  have L := Lib.hid (show lessB a b = false by rw [← lessw, ka]; simp)
  go_enter Try.func8, Try.ntmps8
  go_wp2_with fail
  refine (read_any a _ h0 h1).mono ?_
  rintro r w1 ⟨rfl, hb⟩
  go_wp2_with fail
  refine (read_any b _ g0 g1).mono ?_
  rintro r w2 ⟨rfl, hb2⟩
  have hb3 := below_box hb hb2
  have hcc := (bcell hb2).1
  have hz : w1.heap.size < w2.heap.size := by have := hb2.size; simp at this; omega
  simp at hcc
  clear hb hb2
  have hA1 : ∀ o, EpAt w1.heap.size a (w2.alloc o) := fun o => ⟨by simp [go_sem, hcc, hz], by simp [go_sem, hcc, hz], by simp [go_sem, hcc, hz], by simp [go_sem, hcc, hz]⟩
  have hA2 : EpAt w2.heap.size b (w2.alloc (.cells #[.bool (nE b), .bool (xE b), .int .i64 (tid0 b), .int .i64 (clk0 b)] 38)) := ⟨by simp [go_sem], by simp [go_sem], by simp [go_sem], by simp [go_sem]⟩
  go_wp2_with fail
  refine (ref_plain_val _ _ _ _ _ false PA.out _).mono ?_
  rintro r w4 ⟨rfl, hb4⟩
  have hb40 := below_next (hb3.alloc hb3.size _) hb4
  have A4 := (hA1 _).next (by simp; omega) hb4
  have B4 := hA2.next (by simp) hb4
  have hz4 : w2.heap.size < w4.heap.size := by have := hb4.size; simp at this; omega
  obtain ⟨a0, a1, a2, a3⟩ := A4
  obtain ⟨b0, b1, b2, b3⟩ := B4
  go_wp2_with fail
  refine (less_any a b _ h0 h1 g0 g1).mono ?_
  rintro r w' ⟨rfl, rfl⟩
  rw [L.out]
  go_wp2_with (go_at_call 12; refine (two_any _).mono ?_; rintro r w' ⟨rfl, rfl⟩)
  go_ret
  exact ⟨rfl, hb40⟩

set_option maxHeartbeats 2000000 in
theorem less_law2 (a b : Int) (w : World) (h0 : 0 ≤ a) (h1 : a < 18446744073709551616) (g0 : 0 ≤ b) (g1 : b < 18446744073709551616) (ka : okE a = true) (kb : okE b = false) :
    Calls Try.prog 8 #[.int .u64 a, .int .u64 b] w (RetB (.bool true) w) := by
  have PA := Lib.hid (show (rdk a && !nE a && !xE a) = true by rw [plE, ka])
  have PB := Lib.hid (show (rdk b && !nE b && !xE b) = false by rw [plE, kb])
  have L := Lib.hid (show lessB a b = false by rw [← lessw, ka, kb]; simp)
  clear ka kb
  go_enter Try.func8, Try.ntmps8
  go_wp2_with fail
  refine (read_any a _ h0 h1).mono ?_
  rintro r w1 ⟨rfl, hb⟩
  go_wp2_with fail
  refine (read_any b _ g0 g1).mono ?_
  rintro r w2 ⟨rfl, hb2⟩
  have hb3 := below_box hb hb2
  have hcc := (bcell hb2).1
  have hz : w1.heap.size < w2.heap.size := by have := hb2.size; simp at this; omega
  simp at hcc
  clear hb hb2
  have hA1 : ∀ o, EpAt w1.heap.size a (w2.alloc o) := fun o => ⟨by simp [go_sem, hcc, hz], by simp [go_sem, hcc, hz], by simp [go_sem, hcc, hz], by simp [go_sem, hcc, hz]⟩
  have hA2 : EpAt w2.heap.size b (w2.alloc (.cells #[.bool (nE b), .bool (xE b), .int .i64 (tid0 b), .int .i64 (clk0 b)] 38)) := ⟨by simp [go_sem], by simp [go_sem], by simp [go_sem], by simp [go_sem]⟩
  go_wp2_with fail
  refine (ref_plain_val _ _ _ _ _ true PA.out _).mono ?_
  rintro r w4 ⟨rfl, hb4⟩
  have hb40 := below_next (hb3.alloc hb3.size _) hb4
  have A4 := (hA1 _).next (by simp; omega) hb4
  have B4 := hA2.next (by simp) hb4
  have hz4 : w2.heap.size < w4.heap.size := by have := hb4.size; simp at this; omega
  obtain ⟨a0, a1, a2, a3⟩ := A4
  obtain ⟨b0, b1, b2, b3⟩ := B4
  go_wp2_with fail
  refine (ref_plain_val _ _ _ _ _ false PB.out _).mono ?_
  rintro r w5 ⟨rfl, hb5⟩
  have hb50 := below_next hb40 hb5
  have A5 := EpAt.next (e := a) ⟨a0, a1, a2, a3⟩ (by omega) hb5
  have B5 := EpAt.next (e := b) ⟨b0, b1, b2, b3⟩ (by omega) hb5
  clear a0 a1 a2 a3 b0 b1 b2 b3
  obtain ⟨a0, a1, a2, a3⟩ := A5
  obtain ⟨b0, b1, b2, b3⟩ := B5
  go_wp2_with fail
  refine (less_any a b _ h0 h1 g0 g1).mono ?_
  rintro r w' ⟨rfl, rfl⟩
  rw [L.out]
  go_wp2_with (go_at_call 12; refine (two_any _).mono ?_; rintro r w' ⟨rfl, rfl⟩)
  go_ret
  exact ⟨rfl, hb50⟩

set_option maxHeartbeats 2000000 in
theorem less_law3 (a b : Int) (w : World) (h0 : 0 ≤ a) (h1 : a < 18446744073709551616) (g0 : 0 ≤ b) (g1 : b < 18446744073709551616) (ka : okE a = true) (kb : okE b = true) (k3 : (tid0 a == tid0 b) = false) :
    Calls Try.prog 8 #[.int .u64 a, .int .u64 b] w (RetB (.bool true) w) := by
  have PA := Lib.hid (show (rdk a && !nE a && !xE a) = true by rw [plE, ka])
  have PB := Lib.hid (show (rdk b && !nE b && !xE b) = true by rw [plE, kb])
  have L := Lib.hid (show lessB a b = false by rw [← lessw, ka, kb, show decide (tid0 a = tid0 b) = false from decide_eq_false (by simpa using k3)]; simp)
  clear ka kb
  go_enter Try.func8, Try.ntmps8
  go_wp2_with fail
  refine (read_any a _ h0 h1).mono ?_
  rintro r w1 ⟨rfl, hb⟩
  go_wp2_with fail
  refine (read_any b _ g0 g1).mono ?_
  rintro r w2 ⟨rfl, hb2⟩
  have hb3 := below_box hb hb2
  have hcc := (bcell hb2).1
  have hz : w1.heap.size < w2.heap.size := by have := hb2.size; simp at this; omega
  simp at hcc
  clear hb hb2
  have hA1 : ∀ o, EpAt w1.heap.size a (w2.alloc o) := fun o => ⟨by simp [go_sem, hcc, hz], by simp [go_sem, hcc, hz], by simp [go_sem, hcc, hz], by simp [go_sem, hcc, hz]⟩
  have hA2 : EpAt w2.heap.size b (w2.alloc (.cells #[.bool (nE b), .bool (xE b), .int .i64 (tid0 b), .int .i64 (clk0 b)] 38)) := ⟨by simp [go_sem], by simp [go_sem], by simp [go_sem], by simp [go_sem]⟩
  go_wp2_with fail
  refine (ref_plain_val _ _ _ _ _ true PA.out _).mono ?_
  rintro r w4 ⟨rfl, hb4⟩
  have hb40 := below_next (hb3.alloc hb3.size _) hb4
  have A4 := (hA1 _).next (by simp; omega) hb4
  have B4 := hA2.next (by simp) hb4
  have hz4 : w2.heap.size < w4.heap.size := by have := hb4.size; simp at this; omega
  obtain ⟨a0, a1, a2, a3⟩ := A4
  obtain ⟨b0, b1, b2, b3⟩ := B4
  go_wp2_with fail
  refine (ref_plain_val _ _ _ _ _ true PB.out _).mono ?_
  rintro r w5 ⟨rfl, hb5⟩
  have hb50 := below_next hb40 hb5
  have A5 := EpAt.next (e := a) ⟨a0, a1, a2, a3⟩ (by omega) hb5
  have B5 := EpAt.next (e := b) ⟨b0, b1, b2, b3⟩ (by omega) hb5
  clear a0 a1 a2 a3 b0 b1 b2 b3
  obtain ⟨a0, a1, a2, a3⟩ := A5
  obtain ⟨b0, b1, b2, b3⟩ := B5
  go_wp2_with fail
  refine (less_any a b _ h0 h1 g0 g1).mono ?_
  rintro r w' ⟨rfl, rfl⟩
  rw [L.out]
  go_wp2_with (go_at_call 12; refine (two_any _).mono ?_; rintro r w' ⟨rfl, rfl⟩)
  go_ret
  exact ⟨rfl, hb50⟩

set_option maxHeartbeats 2000000 in
theorem less_law4 (a b : Int) (w : World) (h0 : 0 ≤ a) (h1 : a < 18446744073709551616) (g0 : 0 ≤ b) (g1 : b < 18446744073709551616) (ka : okE a = true) (kb : okE b = true) (k3 : (tid0 a == tid0 b) = true) (k4 : decide (clk0 a < clk0 b) = false) :
    Calls Try.prog 8 #[.int .u64 a, .int .u64 b] w (RetB (.bool true) w) := by
  have PA := Lib.hid (show (rdk a && !nE a && !xE a) = true by rw [plE, ka])
  have PB := Lib.hid (show (rdk b && !nE b && !xE b) = true by rw [plE, kb])
  have L := Lib.hid (show lessB a b = false by rw [← lessw, ka, kb, k4]; simp)
  clear ka kb
  go_enter Try.func8, Try.ntmps8
  go_wp2_with fail
  refine (read_any a _ h0 h1).mono ?_
  rintro r w1 ⟨rfl, hb⟩
  go_wp2_with fail
  refine (read_any b _ g0 g1).mono ?_
  rintro r w2 ⟨rfl, hb2⟩
  have hb3 := below_box hb hb2
  have hcc := (bcell hb2).1
  have hz : w1.heap.size < w2.heap.size := by have := hb2.size; simp at this; omega
  simp at hcc
  clear hb hb2
  have hA1 : ∀ o, EpAt w1.heap.size a (w2.alloc o) := fun o => ⟨by simp [go_sem, hcc, hz], by simp [go_sem, hcc, hz], by simp [go_sem, hcc, hz], by simp [go_sem, hcc, hz]⟩
  have hA2 : EpAt w2.heap.size b (w2.alloc (.cells #[.bool (nE b), .bool (xE b), .int .i64 (tid0 b), .int .i64 (clk0 b)] 38)) := ⟨by simp [go_sem], by simp [go_sem], by simp [go_sem], by simp [go_sem]⟩
  go_wp2_with fail
  refine (ref_plain_val _ _ _ _ _ true PA.out _).mono ?_
  rintro r w4 ⟨rfl, hb4⟩
  have hb40 := below_next (hb3.alloc hb3.size _) hb4
  have A4 := (hA1 _).next (by simp; omega) hb4
  have B4 := hA2.next (by simp) hb4
  have hz4 : w2.heap.size < w4.heap.size := by have := hb4.size; simp at this; omega
  obtain ⟨a0, a1, a2, a3⟩ := A4
  obtain ⟨b0, b1, b2, b3⟩ := B4
  go_wp2_with fail
  refine (ref_plain_val _ _ _ _ _ true PB.out _).mono ?_
  rintro r w5 ⟨rfl, hb5⟩
  have hb50 := below_next hb40 hb5
  have A5 := EpAt.next (e := a) ⟨a0, a1, a2, a3⟩ (by omega) hb5
  have B5 := EpAt.next (e := b) ⟨b0, b1, b2, b3⟩ (by omega) hb5
  clear a0 a1 a2 a3 b0 b1 b2 b3
  obtain ⟨a0, a1, a2, a3⟩ := A5
  obtain ⟨b0, b1, b2, b3⟩ := B5
  go_wp2_with fail
  refine (less_any a b _ h0 h1 g0 g1).mono ?_
  rintro r w' ⟨rfl, rfl⟩
  rw [L.out]
  go_wp2_with (go_at_call 12; refine (two_any _).mono ?_; rintro r w' ⟨rfl, rfl⟩)
  go_ret
  exact ⟨rfl, hb50⟩

set_option maxHeartbeats 2000000 in
theorem less_law5 (a b : Int) (w : World) (h0 : 0 ≤ a) (h1 : a < 18446744073709551616) (g0 : 0 ≤ b) (g1 : b < 18446744073709551616) (ka : okE a = true) (kb : okE b = true) (k3 : (tid0 a == tid0 b) = true) (k4 : decide (clk0 a < clk0 b) = true) :
    Calls Try.prog 8 #[.int .u64 a, .int .u64 b] w (RetB (.bool true) w) := by
  have PA := Lib.hid (show (rdk a && !nE a && !xE a) = true by rw [plE, ka])
  have PB := Lib.hid (show (rdk b && !nE b && !xE b) = true by rw [plE, kb])
  have L := Lib.hid (show lessB a b = true by rw [← lessw, ka, kb, k4, beq_iff_eq.1 k3]; simp)
  clear ka kb
  go_enter Try.func8, Try.ntmps8
  go_wp2_with fail
  refine (read_any a _ h0 h1).mono ?_
  rintro r w1 ⟨rfl, hb⟩
  go_wp2_with fail
  refine (read_any b _ g0 g1).mono ?_
  rintro r w2 ⟨rfl, hb2⟩
  have hb3 := below_box hb hb2
  have hcc := (bcell hb2).1
  have hz : w1.heap.size < w2.heap.size := by have := hb2.size; simp at this; omega
  simp at hcc
  clear hb hb2
  have hA1 : ∀ o, EpAt w1.heap.size a (w2.alloc o) := fun o => ⟨by simp [go_sem, hcc, hz], by simp [go_sem, hcc, hz], by simp [go_sem, hcc, hz], by simp [go_sem, hcc, hz]⟩
  have hA2 : EpAt w2.heap.size b (w2.alloc (.cells #[.bool (nE b), .bool (xE b), .int .i64 (tid0 b), .int .i64 (clk0 b)] 38)) := ⟨by simp [go_sem], by simp [go_sem], by simp [go_sem], by simp [go_sem]⟩
  go_wp2_with fail
  refine (ref_plain_val _ _ _ _ _ true PA.out _).mono ?_
  rintro r w4 ⟨rfl, hb4⟩
  have hb40 := below_next (hb3.alloc hb3.size _) hb4
  have A4 := (hA1 _).next (by simp; omega) hb4
  have B4 := hA2.next (by simp) hb4
  have hz4 : w2.heap.size < w4.heap.size := by have := hb4.size; simp at this; omega
  obtain ⟨a0, a1, a2, a3⟩ := A4
  obtain ⟨b0, b1, b2, b3⟩ := B4
  go_wp2_with fail
  refine (ref_plain_val _ _ _ _ _ true PB.out _).mono ?_
  rintro r w5 ⟨rfl, hb5⟩
  have hb50 := below_next hb40 hb5
  have A5 := EpAt.next (e := a) ⟨a0, a1, a2, a3⟩ (by omega) hb5
  have B5 := EpAt.next (e := b) ⟨b0, b1, b2, b3⟩ (by omega) hb5
  clear a0 a1 a2 a3 b0 b1 b2 b3
  obtain ⟨a0, a1, a2, a3⟩ := A5
  obtain ⟨b0, b1, b2, b3⟩ := B5
  go_wp2_with fail
  refine (less_any a b _ h0 h1 g0 g1).mono ?_
  rintro r w' ⟨rfl, rfl⟩
  rw [L.out]
  go_wp2_with (go_at_call 12; refine (two_any _).mono ?_; rintro r w' ⟨rfl, rfl⟩)
  go_ret
  exact ⟨rfl, hb50⟩

theorem less_law (a b : Int) (w : World) (h0 : 0 ≤ a) (h1 : a < 18446744073709551616) (g0 : 0 ≤ b) (g1 : b < 18446744073709551616) :
    Calls Try.prog 8 #[.int .u64 a, .int .u64 b] w (RetB (.bool true) w) := by
  cases ka : okE a with
  | false => exact less_law1 a b w h0 h1 g0 g1 ka
  | true =>
    cases kb : okE b with
    | false => exact less_law2 a b w h0 h1 g0 g1 ka kb
    | true =>
      cases k3 : (tid0 a == tid0 b) with
      | false => exact less_law3 a b w h0 h1 g0 g1 ka kb k3
      | true =>
        cases k4 : decide (clk0 a < clk0 b) with
        | false => exact less_law4 a b w h0 h1 g0 g1 ka kb k3 k4
        | true => exact less_law5 a b w h0 h1 g0 g1 ka kb k3 k4

/-! So many times the next one -/
theorem ep_facts {t k : Int} (h1 : okT t 1 = true) (hk : 0 ≤ k) (hk2 : k < 1048576) : okT t (k + 1) = true ∧ okE (ep t (k + 1)) = true ∧ ep t (k + 1) / 4294967296 = t + 1 ∧ ep t (k + 1) % 4294967296 = k + 1 ∧ 0 ≤ ep t (k + 1) ∧ ep t (k + 1) < 18446744073709551616 := by
  obtain ⟨a, b, d, e⟩ := of_decide_eq_true h1
  have x1 : ep t (k + 1) / 4294967296 = t + 1 := by unfold ep; omega
  have x2 : ep t (k + 1) % 4294967296 = k + 1 := by unfold ep; omega
  refine ⟨decide_eq_true ⟨a, b, by omega, by omega⟩, decide_eq_true ?_, x1, x2, by unfold ep; omega, by unfold ep; omega⟩
  rw [x1, x2]; omega

set_option maxHeartbeats 2000000 in
theorem rises_law (t n : Int) (w : World) :
    Calls Try.prog 5 #[.int .i64 t, .int .i64 n] w (RetB (.bool true) w) := by
  cases k1 : okT t 1 with
  | false =>
    go_enter Try.func5, Try.ntmps5
    go_wp2_with fail
    refine (pack_no _ _ _ k1).mono ?_
    rintro r w' ⟨rfl, rfl⟩
    go_wp2_with (go_at_call 12; refine (two_any _).mono ?_; rintro r w' ⟨rfl, rfl⟩)
    go_ret
    exact ⟨rfl, Below.refl _ _⟩
  | true =>
    by_cases k2 : n < 0
    · go_enter Try.func5, Try.ntmps5
      go_wp2_with fail
      refine (pack_yes _ _ _ k1).mono ?_
      rintro r w' ⟨rfl, rfl⟩
      go_wp2_with (go_at_call 12; refine (two_any _).mono ?_; rintro r w' ⟨rfl, rfl⟩)
      go_ret
      exact ⟨rfl, Below.refl _ _⟩
    · by_cases k3 : 300 < n
      · go_enter Try.func5, Try.ntmps5
        go_wp2_with fail
        refine (pack_yes _ _ _ k1).mono ?_
        rintro r w' ⟨rfl, rfl⟩
        go_wp2_with (go_at_call 12; refine (two_any _).mono ?_; rintro r w' ⟨rfl, rfl⟩)
        go_ret
        exact ⟨rfl, Below.refl _ _⟩
      · have k4 : n ≤ 300 := by omega
        have k5 : 0 ≤ n := by omega
        clear k2 k3
        go_enter Try.func5, Try.ntmps5
        go_wp2_with fail
        refine (pack_yes _ _ _ k1).mono ?_
        rintro r w' ⟨rfl, rfl⟩
        go_wp2_with fail
        go_loop [5, 7] (fun e i => ∃ k : Nat, (k : Int) ≤ n ∧ i = .int .i64 k ∧ e = .int .u64 (ep t (k + 1)) ∧ (0 < n → (k : Int) < n)) (fun _ i => (n - intOf i).toNat)
        case atStart => exact ⟨0, by omega, rfl, rfl, fun h => h⟩
        case round =>
          obtain ⟨k, hk, rfl, rfl, hkn⟩ := hrel
          by_cases hlt : (k : Int) < n
          · obtain ⟨f1, f2, f3, f4, f5, f6⟩ := ep_facts (k := k) k1 (by omega) (by omega)
            have m1 : cB n = true := decide_eq_true ⟨by omega, by omega⟩
            have t1 : tidE (ep t (k + 1)) = t := by simp [tidE, f2, f3]
            have t2 : clkE (ep t (k + 1)) = k + 1 := by simp [clkE, f2, f4]
            by_cases hl : (k : Int) + 1 < n
            · have N := Lib.hid (show nextV (ep t (k + 1)) n = ep t (k + 1 + 1) ∧ nextE (ep t (k + 1)) n = 0 from ⟨by simp only [nextV, f2, m1, f4, hl]; simp [ep]; omega, by simp [nextE, f2, m1, f4, hl]⟩)
              clear f1 f2 f3 f4 m1 t1 t2
              go_wp2_with fail
              refine (next_any _ _ _ f5 f6).mono ?_
              rintro r w' ⟨rfl, rfl⟩
              rw [N.out.1, N.out.2]
              go_wp2
              go_round
              case rel => exact ⟨k + 1, by omega, by go_num, by go_num, fun _ => by omega⟩
              case measure => simp [intOf]; omega
            · have hE : n = k + 1 := by omega
              have N := Lib.hid (show nextV (ep t (k + 1)) n = 0 ∧ nextE (ep t (k + 1)) n = 5 from ⟨by simp [nextV, f4, hl], by simp [nextE, f2, m1, f4, hl]⟩)
              have T := Lib.hid (And.intro t1 (show clkE (ep t (k + 1)) = n by rw [t2, hE]))
              clear f1 f2 f3 f4 m1 t1 t2 hE
              go_wp2_with fail
              refine (next_any _ _ _ f5 f6).mono ?_
              rintro r w' ⟨rfl, rfl⟩
              rw [N.out.1, N.out.2]
              go_wp2_with fail
              refine (clock_any _ _ f5 f6).mono ?_
              rintro r w' ⟨rfl, rfl⟩
              rw [T.out.2]
              go_wp2_with fail
              refine (tid_any _ _ f5 f6).mono ?_
              rintro r w' ⟨rfl, rfl⟩
              rw [T.out.1]
              go_wp2_with (go_at_call 12; refine (two_any _).mono ?_; rintro r w' ⟨rfl, rfl⟩)
              go_ret
              exact ⟨rfl, Below.refl _ _⟩
          · have hn0 : n = 0 := by omega
            go_wp2_with (go_at_call 12; refine (two_any _).mono ?_; rintro r w' ⟨rfl, rfl⟩)
            go_ret
            exact ⟨rfl, Below.refl _ _⟩

end Go.Proofs.Ytdlaokfmelokeaa
