
/-
  staitheref19: Put, Retire.
-/
import Derived.Test.YtkcnbkdpjlpppaaRptM
namespace Go.Proofs.Ytkcnbkdpjlpppaa
open Go.RowKit
set_option linter.unusedVariables false
set_option linter.unusedSimpArgs false
set_option maxRecDepth 100000
attribute [local go_sem ↓] exec_ld37

def qF (wr : Bool) (m : M18) (tid : Nat) (ns : List Int) : Int := if wr then putV m tid ns else if rkB m.t m.n m.no m.ta tid ns then 0 else 1
def qN (wr : Bool) (m : M18) (tid : Nat) (n : Int) (ns : List Int) : M18 := if wr then ⟨tid, n, false, false, zeroR, false⟩ else ⟨m.t, m.n, m.no, m.ta, readR m.rd tid n ns, m.tl⟩
theorem q_do (d o : Nat) (m : M18) (wr : Bool) (tid : Nat) (n : Int) (ns : List Int) (Z : Array Value) (hZ : (ints ns).toArray = Z) (hl : ns.length = 256) (w : World) (h : R18 w d o m) (ht : tid < 256) :
    Calls Try.prog (if wr then 50 else 51) #[.pointer (some ⟨d, o, none⟩), .int .i64 tid, .int .i64 n, .agg Z] w fun r w' => r = .returned (.int .i64 (qF wr m tid ns)) ∧ R18 w' d o (qN wr m tid n ns) ∧ Only d o 261 w w' := by
  cases wr with
  | true => exact rput_any d o m tid n ns Z hZ hl w h ht
  | false => exact rread_any d o m tid n ns Z hZ hl w h ht
def QPutPost (d : Nat) (ms : Nat → M18) (rs : Nat → Qr) (c : Nat) (pa pb : Int) (wr : Bool) (tid : Nat) (n : Int) (ns : List Int) (w : World) (r : Ending) (w' : World) : Prop :=
  ∃ y rs', r = .returned (.bool y) ∧ RR w' d (updM ms c (qN wr (ms c) tid n ns)) rs' ∧ Turned (fun i => i = d) w w' ∧
    ((qF wr (ms c) tid ns = 0 ∨ (rs c).th = true) ∧ y = false ∧ rs' = rs ∨ qF wr (ms c) tid ns ≠ 0 ∧ (rs c).th = false ∧ y = true ∧ rs' = updQ rs c ⟨true, c, pa, pb, qF wr (ms c) tid ns, wr⟩)
theorem only_turnedQ {b o n : Nat} {w w' : World} (h : Only b o n w w') : Turned (fun i => i = b) w w' := ⟨h.os, h.tape, h.output, h.size, fun i hi hne => h.block i hi hne⟩
theorem six_cells {w : World} {k : Nat} {t : TypeId} {a0 a1 a2 a3 a4 a5 : Value} (h : w.heap[k]? = some (Obj.cells #[a0, a1, a2, a3, a4, a5] t (0, 0))) :
    w.cell? ⟨k, 0, none⟩ = some a0 ∧ w.cell? ⟨k, 1, none⟩ = some a1 ∧ w.cell? ⟨k, 2, none⟩ = some a2 ∧ w.cell? ⟨k, 3, none⟩ = some a3 ∧ w.cell? ⟨k, 4, none⟩ = some a4 ∧ w.cell? ⟨k, 5, none⟩ = some a5 := by
  refine ⟨?_, ?_, ?_, ?_, ?_, ?_⟩ <;> (simp only [World.cell?, h]; rfl)

theorem RR.drew {w : World} {d : Nat} {ms : Nat → M18} {rs : Nat → Qr} (h : RR w d ms rs) : RR w.drew d ms rs := h.frame rfl
theorem RR.fz {w : World} {d : Nat} {ms : Nat → M18} {rs : Nat → Qr} (h : RR w d ms rs) (j : Nat) : w.frozen? ⟨d, j, none⟩ = false := by
  obtain ⟨cur, h1⟩ := h.ty
  simp only [World.frozen?, h1]; simp
set_option maxHeartbeats 4000000 in
theorem qput_any (d : Nat) (ms : Nat → M18) (rs : Nat → Qr) (c : Nat) (pa pb : Int) (wr : Bool) (tid : Nat) (n : Int) (ns : List Int) (Z : Array Value) (hZ : (ints ns).toArray = Z) (hl : ns.length = 256) (w : World) (h : RR w d ms rs) (hc8 : c < 8) (ht : tid < 256) :
    Calls Try.prog 32 #[.pointer (some ⟨d, 0, none⟩), qrV ⟨false, c, pa, pb, 0, wr⟩, .agg #[.int .i64 tid, .int .i64 n, .bool false, .bool false], .agg Z] w (QPutPost d ms rs c pa pb wr tid n ns w) := by
  unfold qrV
  dsimp only
  obtain ⟨W1, hW1⟩ : ∃ W, w.alloc (.cells #[.bool false, .int .i64 c, .int .i64 pa, .int .i64 pb, .int .i64 0, .bool wr] 62) = W := ⟨_, rfl⟩
  obtain ⟨W2, hW2⟩ : ∃ W, W1.alloc (.cells #[.int .i64 tid, .int .i64 n, .bool false, .bool false] 65) = W := ⟨_, rfl⟩
  obtain ⟨W3, hW3⟩ : ∃ W, W2.alloc (.cells Z 91) = W := ⟨_, rfl⟩
  have b1 : Below w.heap.size w W1 := by rw [← hW1]; exact (Below.refl _ _).alloc (Nat.le_refl _) _
  have b2 : Below W1.heap.size W1 W2 := by rw [← hW2]; exact (Below.refl _ _).alloc (Nat.le_refl _) _
  have b3 : Below W2.heap.size W2 W3 := by rw [← hW3]; exact (Below.refl _ _).alloc (Nat.le_refl _) _
  have X1 : W1.heap[w.heap.size]? = some (.cells #[.bool false, .int .i64 c, .int .i64 pa, .int .i64 pb, .int .i64 0, .bool wr] 62 (0, 0)) := by rw [← hW1]; exact heap_alloc_new w _
  have X2 : W2.heap[W1.heap.size]? = some (.cells #[.int .i64 tid, .int .i64 n, .bool false, .bool false] 65 (0, 0)) := by rw [← hW2]; exact heap_alloc_new W1 _
  have hrc : RAt W3 W2.heap.size ns := by
    have := rat_new W2 ns hl
    rw [hZ, hW3] at this
    exact this
  have X13 := Lib.hid ((b3.block _ (Nat.lt_of_lt_of_le (lt_of_heap X1) b2.size)).trans ((b2.block _ (lt_of_heap X1)).trans X1))
  have X23 := Lib.hid ((b3.block _ (lt_of_heap X2)).trans X2)
  have RC3 := Lib.hid hrc
  have B3 := Lib.hid (below_trans (below_trans b1 b2 b1.size) b3 (Nat.le_trans b1.size b2.size))
  have HR := Lib.hid (h.below B3.out)
  have HW1 := Lib.hid hW1
  have HW2 := Lib.hid hW2
  have HW3 := Lib.hid hW3
  obtain ⟨p1, hp1⟩ : ∃ p, w.heap.size = p := ⟨_, rfl⟩
  obtain ⟨p2, hp2⟩ : ∃ p, W1.heap.size = p := ⟨_, rfl⟩
  obtain ⟨p3, hp3⟩ : ∃ p, W2.heap.size = p := ⟨_, rfl⟩
  have NE := Lib.hid (show p1 ≠ d ∧ p2 ≠ d ∧ p3 ≠ d from by
    have := h.lt; have := b1.size; have := b2.size; refine ⟨?_, ?_, ?_⟩ <;> omega)
  rw [hp1] at X13
  rw [hp2] at X23
  rw [hp3] at RC3
  have HP1 := Lib.hid hp1
  have HP2 := Lib.hid (show p1 + 1 = p2 from by rw [← hp2, ← hW1, size_alloc, hp1])
  have HP3 := Lib.hid (show p2 + 1 = p3 from by rw [← hp3, ← hW2, size_alloc, hp2])
  have hc8' : (c : Int) < 8 := by omega
  have LD := run_ld37 p3 0 ns hl Z hZ
  have DO := Lib.hid (fun X (hX : Below W3.heap.size W3 X) => q_do d (c * 261) (ms c) wr tid n ns Z hZ hl X ((HR.out.below hX).c c hc8) ht)
  have rg3 := RC3.out.range
  obtain ⟨x0, x1, x2, x3, x4, x5⟩ := six_cells X13.out
  obtain ⟨y0, y1, y2, y3⟩ := four_cells X23.out
  clear hW1 hW2 hW3 b1 b2 b3 X1 X2 hrc hp1 hp2 hp3 hZ hl h
  go_enter Try.func32, Try.ntmps32
  go_upto_region 1 with fail
  rw [HW1.out, HW2.out, HW3.out, HP1.out, HP2.out, HP3.out]
  go_quiet (fail)
  obtain ⟨W4, hW4⟩ : ∃ W, W3.drewN nq = W := ⟨_, rfl⟩
  rw [hW4]
  have b4 : Below W3.heap.size W3 W4 := by rw [← hW4]; exact below_drewN (Below.refl _ _) _
  have X14 := Lib.hid ((b4.block _ (lt_of_heap X13.out)).trans X13.out)
  have X24 := Lib.hid ((b4.block _ (lt_of_heap X23.out)).trans X23.out)
  have rg4 := (RC3.out.below b4).range
  have R4 := Lib.hid (HR.out.below b4)
  have B4 := Lib.hid (below_trans B3.out b4 B3.out.size)
  have D4 := Lib.hid (DO.out W4 b4)
  clear hW4 b4 x0 x1 x2 x3 x4 x5 y0 y1 y2 y3 rg3
  obtain ⟨x0, x1, x2, x3, x4, x5⟩ := six_cells X14.out
  obtain ⟨y0, y1, y2, y3⟩ := four_cells X24.out
  obtain ⟨F, hF⟩ : ∃ F, qF wr (ms c) tid ns = F := ⟨_, rfl⟩
  rw [hF] at D4
  have HF := Lib.hid hF
  clear hF
  have MAIN : ∀ w5, R18 w5 d (c * 261) (qN wr (ms c) tid n ns) → Only d (c * 261) 261 W4 w5 → RR w5 d (updM ms c (qN wr (ms c) tid n ns)) rs ∧ Turned (fun i => i = d) w w5 ∧ w5.heap[p1]? = some (.cells #[.bool false, .int .i64 c, .int .i64 pa, .int .i64 pb, .int .i64 0, .bool wr] 62 (0, 0)) := fun w5 h1 h2 =>
    ⟨R4.out.turn hc8 h2 h1, (turned_below B4.out).trans (only_turnedQ h2) (fun _ _ hh => hh) (fun _ _ hh => hh), (h2.block _ (lt_of_heap X14.out) NE.out.1).trans X14.out⟩
  have MM := Lib.hid MAIN
  obtain ⟨th, hth⟩ : ∃ th, (rs c).th = th := ⟨_, rfl⟩
  have HT := Lib.hid hth
  clear MAIN hth
  cases wr
  all_goals
    simp only [Bool.false_eq_true, if_false, if_true] at D4
    go_wp2_with fail
    refine D4.out.mono ?_
    rintro r w5 ⟨rfl, h1, h2⟩
    obtain ⟨rr5, tt5, xx5⟩ := MM.out w5 h1 h2
    obtain ⟨r0, r1, r2, r3, r4, r5⟩ := rr5.r c hc8
    rw [HT.out] at r0
    have R5 := Lib.hid rr5
    have T5 := Lib.hid tt5
    have X5 := Lib.hid xx5
    have ne1 : p1 ≠ d := NE.out.1
    have ne2 : ¬ d = p1 := fun e => ne1 e.symm
    clear h1 h2 rr5 tt5 xx5 x0 x1 x2 x3 x4 x5 y0 y1 y2 y3 rg4
    obtain ⟨x0, x1, x2, x3, x4, x5⟩ := six_cells X5.out
    by_cases h0 : F = 0
    · subst h0
      have FIN := Lib.hid (fun m => (⟨false, rs, rfl, (R5.out.frame (w' := w5.drewN m) rfl), T5.out.trans (turned_below (below_drewN (Below.refl _ _) m)) (fun _ _ hh => hh) (fun _ _ hh => hh), .inl ⟨.inl HF.out, rfl, rfl⟩⟩ : QPutPost d ms rs c pa pb _ tid n ns w (.returned (.bool false)) (w5.drewN m)))
      go_wp2_with fail
      go_quiet (fail)
      go_wp2_with fail
      go_ret
      exact FIN.out _
    · have h0' : (F == 0) = false := by simpa using h0
      cases th with
      | true =>
        have FIN := Lib.hid (fun m => (⟨false, rs, rfl, (R5.out.frame (w' := w5.drewN m) rfl), T5.out.trans (turned_below (below_drewN (Below.refl _ _) m)) (fun _ _ hh => hh) (fun _ _ hh => hh), .inl ⟨.inr HT.out, rfl, rfl⟩⟩ : QPutPost d ms rs c pa pb _ tid n ns w (.returned (.bool false)) (w5.drewN m)))
        go_wp2_with fail
        go_quiet (fail)
        go_wp2_with fail
        go_ret
        exact FIN.out _
      | false =>
        go_wp2_with fail
        go_quiet (fail)
        obtain ⟨W6, hW6⟩ : ∃ W, w5.drewN nq = W := ⟨_, rfl⟩
        rw [hW6]
        have R6 := Lib.hid (R5.out.frame (w' := W6) (by rw [← hW6]; rfl))
        have T6 := Lib.hid (show Turned (fun i => i = d) w W6 from by rw [← hW6]; exact T5.out.trans (turned_below (below_drewN (Below.refl _ _) nq)) (fun _ _ hh => hh) (fun _ _ hh => hh))
        have X6 := Lib.hid ((show W6.heap[p1]? = w5.heap[p1]? from by rw [← hW6]; rfl).trans X5.out)
        clear hW6 x0 x1 x2 x3 x4 x5 r0 r1 r2 r3 r4 r5
        obtain ⟨x0, x1, x2, x3, x4, x5⟩ := six_cells X6.out
        obtain ⟨r0, r1, r2, r3, r4, r5⟩ := R6.out.r c hc8
        have f0 := R6.out.fz (2088 + c * 6)
        have f1 := R6.out.fz (2088 + c * 6 + 1)
        have f2 := R6.out.fz (2088 + c * 6 + 2)
        have f3 := R6.out.fz (2088 + c * 6 + 3)
        have f4 := R6.out.fz (2088 + c * 6 + 4)
        have f5 := R6.out.fz (2088 + c * 6 + 5)
        have DONE := Lib.hid (show QPutPost d ms rs c pa pb _ tid n ns w (.returned (.bool true)) _ from ⟨true, _, rfl, (R6.out.race hc8 ⟨true, c, pa, pb, F, _⟩).drew, (T6.out.trans (only_turnedQ (only_race _ _ _ _ _ _)) (fun _ _ hh => hh) (fun _ _ hh => hh)).trans (turned_drew (fun i => i = d) _) (fun _ _ hh => hh) (fun _ _ hh => hh), .inr ⟨by rw [HF.out]; exact h0, HT.out, rfl, by rw [HF.out]⟩⟩)
        go_wp2_with fail
        first | go_region_held3 (fun w' => w'.cell? ⟨p1, 1, none⟩ = some (.int .i64 c) ∧ w'.cell? ⟨p1, 2, none⟩ = some (.int .i64 pa) ∧ w'.cell? ⟨p1, 3, none⟩ = some (.int .i64 pb) ∧ w'.cell? ⟨p1, 5, none⟩ = some (.bool false)) (go_keep) (fail) | go_region_held3 (fun w' => w'.cell? ⟨p1, 1, none⟩ = some (.int .i64 c) ∧ w'.cell? ⟨p1, 2, none⟩ = some (.int .i64 pa) ∧ w'.cell? ⟨p1, 3, none⟩ = some (.int .i64 pb) ∧ w'.cell? ⟨p1, 5, none⟩ = some (.bool true)) (go_keep) (fail)
        go_wp2_with fail
        go_ret
        exact DONE.out

/-! ### Retire -/
def QRetPost (d : Nat) (ms : Nat → M18) (rs : Nat → Qr) (tid : Nat) (cut : Int) (w : World) (r : Ending) (w' : World) : Prop :=
  r = .returned (.int .i64 0) ∧ RR w' d (fun i => retM (ms i) tid cut) rs ∧ Turned (fun i => i = d) w w'
theorem qret_any (d : Nat) (ms : Nat → M18) (rs : Nat → Qr) (tid : Nat) (cut : Int) (w : World) (h : RR w d ms rs) (ht : tid < 256) (h0 : 0 ≤ cut) (h1 : cut ≤ 1048576) :
    Calls Try.prog 30 #[.pointer (some ⟨d, 0, none⟩), .int .i64 tid, .int .i64 cut] w (QRetPost d ms rs tid cut w) := by
  have HR := Lib.hid h
  have HT := Lib.hid ht
  have HC := Lib.hid (show 0 ≤ cut ∧ cut ≤ 1048576 from ⟨h0, h1⟩)
  clear h ht h0 h1
  go_enter Try.func30, Try.ntmps30
  go_wp2_with fail
  go_loopw [8, 7] (fun i e wr => ∃ k : Nat, k ≤ 8 ∧ i = .int .i64 k ∧ e = .int .i64 0 ∧ RR wr d (fun i => if i < k then retM (ms i) tid cut else ms i) rs ∧ Turned (fun i => i = d) w wr) (fun i _ _ => 8 - (intOf i).toNat)
  case atStart => exact ⟨0, by omega, rfl, rfl, by simpa using HR.out, Turned.refl _ _⟩
  case round =>
    obtain ⟨k, hk, rfl, rfl, hr, htt⟩ := hrel
    have R1 := Lib.hid hr
    have T1 := Lib.hid htt
    clear hr htt
    by_cases hlt : k < 8
    · have hlt' : (k : Int) < 8 := by omega
      have DO := Lib.hid (rret_any d (k * 261) (ms k) tid cut wr (by have := R1.out.c k hlt; simp only [Nat.lt_irrefl, if_false] at this; exact this) HT.out HC.out.1 HC.out.2)
      go_wp2_with fail
      refine DO.out.mono ?_
      rintro r w2 ⟨rfl, h1, h2⟩
      have R2 := Lib.hid (R1.out.turn hlt h2 h1)
      have T2 := Lib.hid (T1.out.trans (only_turnedQ h2) (fun _ _ hh => hh) (fun _ _ hh => hh))
      clear h1 h2
      go_wp2_with fail
      go_roundw
      case rel => exact ⟨k + 1, by omega, by go_num, rfl, by
        have e : (fun i => if i < k + 1 then retM (ms i) tid cut else ms i) = updM (fun i => if i < k then retM (ms i) tid cut else ms i) k (retM (ms k) tid cut) := by
          funext i
          unfold updM
          by_cases h1 : i = k
          · subst h1; simp
          · by_cases h2 : i < k
            · rw [if_pos (by omega), if_neg h1]; simp only [h2, if_true]
            · rw [if_neg (by omega), if_neg h1]; simp only [h2, if_false]
        rw [e]; exact R2.out, T2.out⟩
      case measure => simp [intOf] <;> omega
    · have hge : (8 : Int) ≤ k := by omega
      have R8 := Lib.hid (show RR wr d (fun i => retM (ms i) tid cut) rs from by
        obtain ⟨h1, h2, h3⟩ := R1.out
        refine ⟨h1, fun i hi => ?_, h3⟩
        have := h2 i hi
        rw [if_pos (by omega)] at this
        exact this)
      go_wp2_with fail
      go_ret
      exact ⟨rfl, R8.out, T1.out⟩
theorem qret_bad (d : Nat) (tid cut : Int) (w : World) (h : retBad tid cut = true) :
    Calls Try.prog 30 #[.pointer (some ⟨d, 0, none⟩), .int .i64 tid, .int .i64 cut] w fun r w' => r = .returned (.int .i64 1) ∧ w = w' := by
  have HB := Lib.hid (fun v X => rret_bad v tid cut X h)
  clear h
  go_enter Try.func30, Try.ntmps30
  go_wp2_with fail
  go_loopw [8, 7] (fun i e wr => ∃ k : Nat, k ≤ 8 ∧ i = .int .i64 k ∧ (∃ z : Int, e = .int .i64 z ∧ z = if k = 0 then 0 else 1) ∧ wr = w) (fun i _ _ => 8 - (intOf i).toNat)
  case atStart => exact ⟨0, by omega, rfl, ⟨0, rfl, rfl⟩, rfl⟩
  case round =>
    obtain ⟨k, hk, rfl, ⟨z, rfl, he⟩, rfl⟩ := hrel
    by_cases hlt : k < 8
    · have hlt' : (k : Int) < 8 := by omega
      clear he
      go_wp2_with fail
      refine (HB.out _ wr).mono ?_
      rintro r w2 ⟨rfl, rfl⟩
      go_wp2_with fail
      go_roundw
      case rel => exact ⟨k + 1, by omega, by go_num, ⟨1, rfl, by rw [if_neg (by omega)]⟩, by first | rfl | trivial⟩
      case measure => simp [intOf] <;> omega
    · have hge : (8 : Int) ≤ k := by omega
      rw [if_neg (by omega)] at he
      subst he
      go_wp2_with fail
      go_ret
      exact ⟨rfl, rfl⟩
end Go.Proofs.Ytkcnbkdpjlpppaa

