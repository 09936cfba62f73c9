
/-
  CellNil, CellCut.
-/
import Derived.Test.YtonegedenmchbaaCelK
namespace Go.Proofs.Ytonegedenmchbaa
open Go.RowKit
set_option linter.unusedVariables false
set_option linter.unusedSimpArgs false
set_option maxRecDepth 100000

def LawPost (w : World) (e : Ending) (w' : World) : Prop := e = .returned (.bool true) ∧ Below w.heap.size w w'

theorem cread_nil_b (ac : Option Addr) (e : Int) (w : World) (h : U64 e) : Calls Try.prog 16 #[.pointer none, .int .u64 e, .pointer ac] w fun r w' => r = .returned (.tuple #[.int .i64 0, .int .i64 (if okE e then 7 else 1)]) ∧ Below w.heap.size w w' := by
  cases hk : okE e with
  | true => exact cread_nil ac e w h hk
  | false => exact cread_bad _ ac e w h hk
theorem cwrite_nil_b (ac : Option Addr) (e : Int) (w : World) (h : U64 e) : Calls Try.prog 15 #[.pointer none, .int .u64 e, .pointer ac] w fun r w' => r = .returned (.tuple #[.int .i64 0, .int .i64 (if okE e then 7 else 1)]) ∧ Below w.heap.size w w' := by
  cases hk : okE e with
  | true => exact cwrite_nil ac e w h hk
  | false => exact cwrite_bad _ ac e w h hk

set_option maxHeartbeats 4000000 in
theorem nil_law (e tid cut : Int) (w : World) (h0 : 0 ≤ e) (h1 : e < 18446744073709551616) :
    Calls Try.prog 6 #[.int .u64 e, .int .i64 tid, .int .i64 cut] w (LawPost w) := by
  have U := Lib.hid (show U64 e from ⟨h0, h1⟩)
  clear h0 h1
  go_enter Try.func6, Try.ntmps6
  go_wp2_with fail
  refine (split_any e w U.out).mono ?_
  rintro r w1 ⟨rfl, hb1⟩
  unfold splitV rE
  obtain ⟨a0, ha0⟩ : ∃ a, nE e = a := ⟨_, rfl⟩
  obtain ⟨a1, ha1⟩ : ∃ a, xE e = a := ⟨_, rfl⟩
  obtain ⟨a2, ha2⟩ : ∃ a, tid0 e = a := ⟨_, rfl⟩
  obtain ⟨a3, ha3⟩ : ∃ a, clk0 e = a := ⟨_, rfl⟩
  rw [ha0, ha1, ha2, ha3]
  obtain ⟨W1, hW1⟩ : ∃ W1, w1.alloc (.cells #[.bool a0, .bool a1, .int .i64 a2, .int .i64 a3] 65) = W1 := ⟨_, rfl⟩
  have B1 := Lib.hid (show Below w.heap.size w W1 from by rw [← hW1]; exact hb1.alloc hb1.size _)
  have HW1 := Lib.hid hW1
  obtain ⟨k, hk⟩ : ∃ k, okE e = k := ⟨_, rfl⟩
  rw [hk]
  have R1 := Lib.hid (show ∀ X, Calls Try.prog 16 #[.pointer none, .int .u64 e, .pointer none] X fun r w' => r = .returned (.tuple #[.int .i64 0, .int .i64 (if k then 7 else 1)]) ∧ Below X.heap.size X w' from fun X => by rw [← hk]; exact cread_nil_b none e X U.out)
  have R2 := Lib.hid (show ∀ X, Calls Try.prog 15 #[.pointer none, .int .u64 e, .pointer none] X fun r w' => r = .returned (.tuple #[.int .i64 0, .int .i64 (if k then 7 else 1)]) ∧ Below X.heap.size X w' from fun X => by rw [← hk]; exact cwrite_nil_b none e X U.out)
  have R3 := Lib.hid (show ∀ X, Calls Try.prog 20 #[.pointer none, .int .i64 tid, .int .i64 cut] X fun r w' => r = .returned (.int .i64 (if retBad tid cut then 1 else 7)) ∧ Below X.heap.size X w' from fun X => by
    cases hb : retBad tid cut with
    | true => exact cret_bad none tid cut X hb
    | false => exact cret_nil tid cut X hb)
  clear hb1 hW1 ha0 ha1 ha2 ha3 hk
  go_wp2_with fail
  rw [HW1.out]
  refine (R1.out W1).mono ?_
  rintro r w2 ⟨rfl, hb2⟩
  have B2 := Lib.hid (below_trans B1.out hb2 B1.out.size)
  clear hb2
  obtain ⟨f, hf⟩ : ∃ f : Int, (if k then 7 else 1) = f := ⟨_, rfl⟩
  rw [hf] at R2 ⊢
  have HF := Lib.hid hf
  clear hf
  go_wp2_with fail
  refine (R2.out w2).mono ?_
  rintro r w3 ⟨rfl, hb3⟩
  have B3 := Lib.hid (below_trans B2.out hb3 B2.out.size)
  clear hb3
  go_wp2_with fail
  refine (R3.out w3).mono ?_
  rintro r w4 ⟨rfl, hb4⟩
  have B4 := Lib.hid (below_trans B3.out hb4 B3.out.size)
  clear hb4
  rcases ret_cases tid cut with ⟨hv, h⟩ | ⟨hv, h1, h2, h3, h4⟩
  · rw [hv]
    clear hv
    have hh : tid < 0 ∨ (0 ≤ tid ∧ 255 < tid) ∨ (0 ≤ tid ∧ tid ≤ 255 ∧ cut < 0) ∨ (0 ≤ tid ∧ tid ≤ 255 ∧ 0 ≤ cut ∧ ¬ cut ≤ 1048576) := by
      rcases h with h1 | ⟨h1, h2⟩ | ⟨h1, h2, h3⟩ | ⟨h1, h2, h3, h4⟩ <;> omega
    clear h
    rcases hh with h1 | ⟨h1, h2⟩ | ⟨h1, h2, h3⟩ | ⟨h1, h2, h3, h4⟩
    all_goals
      cases k
      all_goals
        obtain rfl := HF.out
        go_wp2_with fail
        refine (last_nil _).mono ?_
        rintro r w' ⟨rfl, rfl⟩
        go_wp2_with fail
        refine (reads_nil _).mono ?_
        rintro r w' ⟨rfl, rfl⟩
        go_wp2_with fail
        refine (tailed_nil _).mono ?_
        rintro r w' ⟨rfl, rfl⟩
        go_wp2_with fail
        refine (wide_nil _).mono ?_
        rintro r w' ⟨rfl, rfl⟩
        go_wp2_with fail
        refine (races_any _).mono ?_
        rintro r w5 ⟨rfl, hb5⟩
        have B5 := Lib.hid (below_trans B4.out hb5 B4.out.size)
        clear hb5
        go_wp2_with fail
        go_ret
        exact ⟨by first | rfl | (have n4 : decide (cut ≤ 1048576) = false := decide_eq_false (by omega); simp [n4]), B5.out⟩
  · rw [hv]
    clear hv
    have g1 : 0 ≤ tid := by omega
    have g2 : tid ≤ 255 := by omega
    have g3 : 0 ≤ cut := by omega
    have g4 : cut ≤ 1048576 := by omega
    clear h1 h2 h3 h4
    cases k
    all_goals
      obtain rfl := HF.out
      go_wp2_with fail
      refine (last_nil _).mono ?_
      rintro r w' ⟨rfl, rfl⟩
      go_wp2_with fail
      refine (reads_nil _).mono ?_
      rintro r w' ⟨rfl, rfl⟩
      go_wp2_with fail
      refine (tailed_nil _).mono ?_
      rintro r w' ⟨rfl, rfl⟩
      go_wp2_with fail
      refine (wide_nil _).mono ?_
      rintro r w' ⟨rfl, rfl⟩
      go_wp2_with fail
      refine (races_any _).mono ?_
      rintro r w5 ⟨rfl, hb5⟩
      have B5 := Lib.hid (below_trans B4.out hb5 B4.out.size)
      clear hb5
      go_wp2_with fail
      go_ret
      exact ⟨rfl, B5.out⟩

/-! ### CellCut -/
def tailN : Int := 18446744073709551615
theorem known_zero (e : Int) (f : Int → Int) : knownB 0 e f = true := by simp [knownB]
theorem known_tail (e : Int) (f : Int → Int) : knownB tailN e f = false := by simp [knownB, tailN]
theorem okT_ep {t c : Int} (h : okT t c = true) : okE (ep t c) = true ∧ tidE (ep t c) = t ∧ clkE (ep t c) = c := by
  obtain ⟨a, b, d, e⟩ := of_decide_eq_true h
  exact ⟨okE_ep a b d e, tidE_ep a b d e, clkE_ep a b d e⟩
theorem retX_ep {t c : Int} (h : okT t c = true) (cut : Int) : retX (ep t c) t cut = if c ≤ cut then 0 else tailN := by
  obtain ⟨h1, h2, h3⟩ := okT_ep h
  unfold retX
  rw [h2, h3, if_pos rfl]; rfl
theorem retX_zero {t : Int} (h : 0 ≤ t) (cut : Int) : retX 0 t cut = 0 := by
  unfold retX
  rw [if_neg (by rw [tidE_no (by decide)]; omega)]
theorem retL_ep {t c : Int} (h : okT t c = true) : retL [ep t c] t = [] := by
  obtain ⟨h1, h2, h3⟩ := okT_ep h
  simp [retL, ownB, h2]
theorem retT_ep {t c : Int} (h : okT t c = true) (cut : Int) : retT [ep t c] false t cut = decide (cut < c) := by
  obtain ⟨h1, h2, h3⟩ := okT_ep h
  simp [retT, ownB, gtB, h2, h3]
theorem readL_nil (e : Int) (f : Int → Int) : readL [] e f = [e] := by simp [readL, keptL, insL]

def cutX (n cut : Int) (b0 : Bool) : Int := if b0 then (if n ≤ cut then 0 else tailN) else 0
def cutT (n cut : Int) (b0 : Bool) : Bool := if b0 then false else decide (cut < n)
def withV (n cut : Int) (b0 b1 : Bool) : Int := if cut < n then (if b0 then 1 else if b1 then 2 else 0) else 0
theorem cut_write (n cut : Int) (b0 : Bool) (e : Int) (f : Int → Int) : writeV (cutX n cut b0) [] (cutT n cut b0) e f = withV n cut b0 true := by
  unfold writeV cutX cutT withV
  cases b0
  · by_cases h : cut < n <;> simp [known_zero, h]
  · by_cases h : cut < n
    · have : ¬ n ≤ cut := by omega
      simp [known_tail, h, this]
    · have : n ≤ cut := by omega
      simp [known_zero, h, this]
theorem cut_read (n cut : Int) (b0 : Bool) (e : Int) (f : Int → Int) : (if knownB (cutX n cut b0) e f then (0 : Int) else 1) = withV n cut b0 false := by
  unfold cutX withV
  cases b0
  · by_cases h : cut < n <;> simp [known_zero, h]
  · by_cases h : cut < n
    · have : ¬ n ≤ cut := by omega
      simp [known_tail, h, this]
    · have : n ≤ cut := by omega
      simp [known_zero, h, this]

set_option maxHeartbeats 4000000 in
theorem cut_law (n cut : Int) (b0 b1 : Bool) (w : World) :
    Calls Try.prog 4 #[.int .i64 n, .int .i64 cut, .agg #[.bool b0, .bool b1]] w (LawPost w) := by
  obtain ⟨W, hW⟩ : ∃ W, w.alloc (.cells #[.bool b0, .bool b1] 52) = W := ⟨_, rfl⟩
  have HW := Lib.hid hW
  have Z := Lib.hid (show W.heap[w.heap.size]? = some (.cells #[.bool b0, .bool b1] 52 (0, 0)) from by rw [← hW]; exact heap_alloc_new w _)
  have B0 := Lib.hid (show Below w.heap.size w W from by rw [← hW]; exact (Below.refl _ _).alloc (Nat.le_refl _) _)
  have P1 := Lib.hid (pack_any 2 n)
  obtain ⟨k, hk⟩ : ∃ k, okT 2 n = k := ⟨_, rfl⟩
  have HK := Lib.hid hk
  have bcells : ∀ w' : World, w'.heap[w.heap.size]? = some (.cells #[.bool b0, .bool b1] 52 (0, 0)) → w'.cell? ⟨w.heap.size, 0, none⟩ = some (.bool b0) ∧ w'.cell? ⟨w.heap.size, 1, none⟩ = some (.bool b1) := fun w' h => by
    constructor <;> (simp only [World.cell?, h]; rfl)
  have BC := Lib.hid bcells
  clear hW hk bcells
  go_enter Try.func4, Try.ntmps4
  go_wp2_with fail
  rw [HW.out]
  refine (ce_new w.heap.size W B0.out.size).mono ?_
  rintro e w1 ⟨⟨b, rfl, hc, hbb⟩, hB1⟩
  have hbs : w.heap.size ≠ b := by have := lt_of_heap Z.out; omega
  have C1 := Lib.hid hc
  have B1 := Lib.hid (below_trans B0.out hB1 B0.out.size)
  have Z1 := Lib.hid ((hB1.block _ (lt_of_heap Z.out)).trans Z.out)
  clear hc hB1 hbb
  go_wp2_with fail
  refine (P1.out w1).mono ?_
  rintro r w' ⟨rfl, rfl⟩
  unfold packV packE
  rw [HK.out]
  obtain ⟨f, hf⟩ : ∃ f : Int, (if k = true then 0 else 1) = f := ⟨_, rfl⟩
  obtain ⟨e1, he1⟩ : ∃ e1 : Int, (if k = true then ep 2 n else 0) = e1 := ⟨_, rfl⟩
  rw [hf, he1]
  have HF := Lib.hid hf
  have HE1 := Lib.hid he1
  clear hf he1
  go_wp2_with fail
  refine (of_yes _ [0, 5] _ (src_lit w1 [0, 5] (by simp)) (by decide)).mono ?_
  rintro r w3 ⟨d, g, rfl, hk, hb3, _, _⟩
  have hB3 := (below_alloc hb3).1
  have C3 := Lib.hid (C1.out.below hB3)
  have D3 := Lib.hid (show CkV w3 (.pointer (some ⟨d, 0, none⟩)) (at0 [0, 5]) from .inr ⟨_, _, rfl, hk, rfl⟩)
  have B3 := Lib.hid (below_trans B1.out hB3 B1.out.size)
  have Z3 := Lib.hid ((hB3.block _ (lt_of_heap Z1.out)).trans Z1.out)
  clear hk hb3 hB3 C1 B1
  go_wp2_with fail
  refine (pack_yes 1 5 w3 (by decide)).mono ?_
  rintro r w' ⟨rfl, rfl⟩
  cases k with
  | false =>
    obtain rfl := HF.out
    go_wp2_with fail
    refine (races_any _).mono ?_
    rintro r w5 ⟨rfl, hb5⟩
    have B5 := Lib.hid (below_trans B3.out hb5 B3.out.size)
    clear hb5
    go_wp2_with fail
    go_ret
    exact ⟨rfl, B5.out⟩
  | true =>
    obtain rfl := HF.out
    obtain rfl := HE1.out
    obtain ⟨e1, he1⟩ : ∃ e1 : Int, ep 2 n = e1 := ⟨_, rfl⟩
    have HE := Lib.hid he1
    have KE := Lib.hid (show okE e1 = true from by rw [← he1]; exact (okT_ep HK.out).1)
    rw [he1]
    clear he1
    obtain ⟨z0, z1⟩ := BC.out _ Z3.out
    -- what stands behind the first access and the retiring
    have ST := Lib.hid (show ∀ (x : Int) (l : List Int) (w4 : World), (x = (if b0 then e1 else 0) ∧ l = (if b0 then [] else [e1])) → Ce w.heap.size w4 b x l false → retBad 2 cut = false →
        Calls Try.prog 20 #[.pointer (some ⟨b, 0, none⟩), .int .i64 2, .int .i64 cut] w4 (fun r w' => r = .returned (.int .i64 0) ∧ Turned (fun i => i = b) w4 w' ∧ Ce w.heap.size w' b (cutX n cut b0) [] (cutT n cut b0)) from fun x l w4 hx hc hb => by
      refine (ce_ret hc 2 cut hb).mono ?_
      rintro r w' ⟨h1, h2, h3⟩
      refine ⟨h1, h2, ?_⟩
      obtain ⟨rfl, rfl⟩ := hx
      cases b0 with
      | true =>
        have q1 : retX e1 2 cut = cutX n cut true := by rw [← HE.out, retX_ep HK.out]; rfl
        have q2 : retL [] 2 = [] := rfl
        have q3 : retT [] false 2 cut = false := rfl
        simp only [if_true] at h3
        rw [q1, q2, q3] at h3
        exact h3
      | false =>
        have q1 : retX 0 2 cut = 0 := retX_zero (by decide) cut
        have q2 : retL [e1] 2 = [] := by rw [← HE.out, retL_ep HK.out]
        have q3 : retT [e1] false 2 cut = decide (cut < n) := by rw [← HE.out, retT_ep HK.out]
        simp only [Bool.false_eq_true, if_false] at h3
        rw [q1, q2, q3] at h3
        exact h3)
    cases b0 with
    | true =>
      go_wp2_with fail
      refine (ckv_new w3).mono ?_
      rintro r w4 ⟨c, rfl, hk, hb4⟩
      have C4 := Lib.hid (C3.out.below hb4)
      have K4 := Lib.hid hk
      have D4 := Lib.hid (D3.out.below hb4)
      have B4 := Lib.hid (below_trans B3.out hb4 B3.out.size)
      have Z4 := Lib.hid ((hb4.block _ (lt_of_heap Z3.out)).trans Z3.out)
      clear hk hb4
      go_wp2_with fail
      refine (ce_write C4.out e1 _ _ KE.out K4.out).mono ?_
      rintro r w5 ⟨rfl, ht, hc⟩
      have C5 := Lib.hid hc
      have S5 := Lib.hid (show e1 = (if true then e1 else 0) ∧ ([] : List Int) = (if true then [] else [e1]) from ⟨rfl, rfl⟩)
      have D5 := Lib.hid (ckv_turned C4.out D4.out ht)
      have B5 := Lib.hid (turned_low B4.out (Nat.le_refl _) C4.out.low.1 ht)
      have Z5 := Lib.hid ((ht.block _ (lt_of_heap Z4.out) hbs).trans Z4.out)
      clear ht hc C4 K4 D4 B4 Z4 C3 D3 B3 Z3 z0 z1
      go_wp2_with fail
      rcases ret_cases 2 cut with ⟨hv, h⟩ | ⟨hv, h1, h2, h3, h4⟩
      · refine (cret_bad _ 2 cut w5 hv).mono ?_
        rintro r w6 ⟨rfl, hb6⟩
        have B6 := Lib.hid (below_trans B5.out hb6 B5.out.size)
        have hh : cut < 0 ∨ (¬ cut < 0 ∧ 1048576 < cut) := by
          rcases h with h1 | ⟨h1, h2⟩ | ⟨h1, h2, h3⟩ | ⟨h1, h2, h3, h4⟩ <;> omega
        clear h hv hb6
        rcases hh with h1 | ⟨h1, h2⟩
        all_goals
          go_wp2_with fail
          refine (races_any _).mono ?_
          rintro r w7 ⟨rfl, hb7⟩
          have B7 := Lib.hid (below_trans B6.out hb7 B6.out.size)
          clear hb7
          go_wp2_with fail
          go_ret
          exact ⟨rfl, B7.out⟩
      · refine (ST.out _ _ w5 S5.out C5.out hv).mono ?_
        rintro r w6 ⟨rfl, ht, hc⟩
        have C6 := Lib.hid hc
        have D6 := Lib.hid (ckv_turned C5.out D5.out ht)
        have B6 := Lib.hid (turned_low B5.out (Nat.le_refl _) C5.out.low.1 ht)
        have Z6 := Lib.hid ((ht.block _ (lt_of_heap Z5.out) hbs).trans Z5.out)
        clear ht hc hv C5 D5 B5 Z5 h1 h2 h3 h4
        obtain ⟨z0, z1⟩ := BC.out _ Z6.out
        cases b1 with
        | true =>
          go_wp2_with fail
          refine (ce_write C6.out (ep 1 5) _ _ (by decide) D6.out).mono ?_
          rintro r w7 ⟨rfl, ht, hc⟩
          rw [cut_write]
          have B7 := Lib.hid (turned_low B6.out (Nat.le_refl _) C6.out.low.1 ht)
          obtain ⟨y0, y1⟩ := BC.out _ ((ht.block _ (lt_of_heap Z6.out) hbs).trans Z6.out)
          clear ht hc
          by_cases hcn : cut < n
          · have hv : withV n cut true true = 1 := by unfold withV; rw [if_pos hcn]; rfl
            rw [hv]
            clear hv
            go_wp2_with fail
            refine (races_any _).mono ?_
            rintro r w8 ⟨rfl, hb8⟩
            have B8 := Lib.hid (below_trans B7.out hb8 B7.out.size)
            clear hb8
            go_wp2_with fail
            go_ret
            exact ⟨rfl, B8.out⟩
          · have hv : withV n cut true true = 0 := by unfold withV; rw [if_neg hcn]
            rw [hv]
            clear hv
            go_wp2_with fail
            refine (races_any _).mono ?_
            rintro r w8 ⟨rfl, hb8⟩
            have B8 := Lib.hid (below_trans B7.out hb8 B7.out.size)
            clear hb8
            go_wp2_with fail
            go_ret
            exact ⟨rfl, B8.out⟩
        | false =>
          go_wp2_with fail
          refine (ce_read C6.out (ep 1 5) _ _ (by decide) D6.out).mono ?_
          rintro r w7 ⟨rfl, ht, hc⟩
          rw [cut_read]
          have B7 := Lib.hid (turned_low B6.out (Nat.le_refl _) C6.out.low.1 ht)
          obtain ⟨y0, y1⟩ := BC.out _ ((ht.block _ (lt_of_heap Z6.out) hbs).trans Z6.out)
          clear ht hc
          by_cases hcn : cut < n
          · have hv : withV n cut true false = 1 := by unfold withV; rw [if_pos hcn]; rfl
            rw [hv]
            clear hv
            go_wp2_with fail
            refine (races_any _).mono ?_
            rintro r w8 ⟨rfl, hb8⟩
            have B8 := Lib.hid (below_trans B7.out hb8 B7.out.size)
            clear hb8
            go_wp2_with fail
            go_ret
            exact ⟨rfl, B8.out⟩
          · have hv : withV n cut true false = 0 := by unfold withV; rw [if_neg hcn]
            rw [hv]
            clear hv
            go_wp2_with fail
            refine (races_any _).mono ?_
            rintro r w8 ⟨rfl, hb8⟩
            have B8 := Lib.hid (below_trans B7.out hb8 B7.out.size)
            clear hb8
            go_wp2_with fail
            go_ret
            exact ⟨rfl, B8.out⟩
    | false =>
      go_wp2_with fail
      refine (ckv_new w3).mono ?_
      rintro r w4 ⟨c, rfl, hk, hb4⟩
      have C4 := Lib.hid (C3.out.below hb4)
      have K4 := Lib.hid hk
      have D4 := Lib.hid (D3.out.below hb4)
      have B4 := Lib.hid (below_trans B3.out hb4 B3.out.size)
      have Z4 := Lib.hid ((hb4.block _ (lt_of_heap Z3.out)).trans Z3.out)
      clear hk hb4
      go_wp2_with fail
      refine (ce_read C4.out e1 _ _ KE.out K4.out).mono ?_
      rintro r w5 ⟨rfl, ht, hc⟩
      rw [readL_nil] at hc
      rw [known_zero]
      have C5 := Lib.hid hc
      have S5 := Lib.hid (show (0 : Int) = (if false then e1 else 0) ∧ [e1] = (if false then [] else [e1]) from ⟨rfl, rfl⟩)
      have D5 := Lib.hid (ckv_turned C4.out D4.out ht)
      have B5 := Lib.hid (turned_low B4.out (Nat.le_refl _) C4.out.low.1 ht)
      have Z5 := Lib.hid ((ht.block _ (lt_of_heap Z4.out) hbs).trans Z4.out)
      clear ht hc C4 K4 D4 B4 Z4 C3 D3 B3 Z3 z0 z1
      go_wp2_with fail
      rcases ret_cases 2 cut with ⟨hv, h⟩ | ⟨hv, h1, h2, h3, h4⟩
      · refine (cret_bad _ 2 cut w5 hv).mono ?_
        rintro r w6 ⟨rfl, hb6⟩
        have B6 := Lib.hid (below_trans B5.out hb6 B5.out.size)
        have hh : cut < 0 ∨ (¬ cut < 0 ∧ 1048576 < cut) := by
          rcases h with h1 | ⟨h1, h2⟩ | ⟨h1, h2, h3⟩ | ⟨h1, h2, h3, h4⟩ <;> omega
        clear h hv hb6
        rcases hh with h1 | ⟨h1, h2⟩
        all_goals
          go_wp2_with fail
          refine (races_any _).mono ?_
          rintro r w7 ⟨rfl, hb7⟩
          have B7 := Lib.hid (below_trans B6.out hb7 B6.out.size)
          clear hb7
          go_wp2_with fail
          go_ret
          exact ⟨rfl, B7.out⟩
      · refine (ST.out _ _ w5 S5.out C5.out hv).mono ?_
        rintro r w6 ⟨rfl, ht, hc⟩
        have C6 := Lib.hid hc
        have D6 := Lib.hid (ckv_turned C5.out D5.out ht)
        have B6 := Lib.hid (turned_low B5.out (Nat.le_refl _) C5.out.low.1 ht)
        have Z6 := Lib.hid ((ht.block _ (lt_of_heap Z5.out) hbs).trans Z5.out)
        clear ht hc hv C5 D5 B5 Z5 h1 h2 h3 h4
        obtain ⟨z0, z1⟩ := BC.out _ Z6.out
        cases b1 with
        | true =>
          go_wp2_with fail
          refine (ce_write C6.out (ep 1 5) _ _ (by decide) D6.out).mono ?_
          rintro r w7 ⟨rfl, ht, hc⟩
          rw [cut_write]
          have B7 := Lib.hid (turned_low B6.out (Nat.le_refl _) C6.out.low.1 ht)
          obtain ⟨y0, y1⟩ := BC.out _ ((ht.block _ (lt_of_heap Z6.out) hbs).trans Z6.out)
          clear ht hc
          by_cases hcn : cut < n
          · have hv : withV n cut false true = 2 := by unfold withV; rw [if_pos hcn]; rfl
            rw [hv]
            clear hv
            go_wp2_with fail
            refine (races_any _).mono ?_
            rintro r w8 ⟨rfl, hb8⟩
            have B8 := Lib.hid (below_trans B7.out hb8 B7.out.size)
            clear hb8
            go_wp2_with fail
            go_ret
            exact ⟨rfl, B8.out⟩
          · have hv : withV n cut false true = 0 := by unfold withV; rw [if_neg hcn]
            rw [hv]
            clear hv
            go_wp2_with fail
            refine (races_any _).mono ?_
            rintro r w8 ⟨rfl, hb8⟩
            have B8 := Lib.hid (below_trans B7.out hb8 B7.out.size)
            clear hb8
            go_wp2_with fail
            go_ret
            exact ⟨rfl, B8.out⟩
        | false =>
          go_wp2_with fail
          refine (ce_read C6.out (ep 1 5) _ _ (by decide) D6.out).mono ?_
          rintro r w7 ⟨rfl, ht, hc⟩
          rw [cut_read]
          have B7 := Lib.hid (turned_low B6.out (Nat.le_refl _) C6.out.low.1 ht)
          obtain ⟨y0, y1⟩ := BC.out _ ((ht.block _ (lt_of_heap Z6.out) hbs).trans Z6.out)
          clear ht hc
          by_cases hcn : cut < n
          · have hv : withV n cut false false = 0 := by unfold withV; rw [if_pos hcn]; rfl
            rw [hv]
            clear hv
            go_wp2_with fail
            refine (races_any _).mono ?_
            rintro r w8 ⟨rfl, hb8⟩
            have B8 := Lib.hid (below_trans B7.out hb8 B7.out.size)
            clear hb8
            go_wp2_with fail
            go_ret
            exact ⟨rfl, B8.out⟩
          · have hv : withV n cut false false = 0 := by unfold withV; rw [if_neg hcn]
            rw [hv]
            clear hv
            go_wp2_with fail
            refine (races_any _).mono ?_
            rintro r w8 ⟨rfl, hb8⟩
            have B8 := Lib.hid (below_trans B7.out hb8 B7.out.size)
            clear hb8
            go_wp2_with fail
            go_ret
            exact ⟨rfl, B8.out⟩
end Go.Proofs.Ytonegedenmchbaa

