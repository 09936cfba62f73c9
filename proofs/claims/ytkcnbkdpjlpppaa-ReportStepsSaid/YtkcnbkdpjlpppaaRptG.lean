
/-
  Package report: Retire and Cell on a report.
-/
import Derived.Test.YtkcnbkdpjlpppaaRptF
namespace Go.Proofs.Ytkcnbkdpjlpppaa
open Go.RowKit
set_option linter.unusedVariables false
set_option linter.unusedSimpArgs false
set_option maxRecDepth 100000

theorem rcell_any (B b mb n : Nat) (M : Int → Option Rce) (cs : Nat → Cel) (c : Int) (w : World) (h : Rp B w b mb n 8 M cs) :
    Calls Try.prog 12 #[.pointer (some ⟨b, 0, none⟩), .int .i64 c] w fun r w' => r = .returned (.pointer (if isC c then some ⟨(cs c.toNat).b, 0, none⟩ else none)) ∧ w = w' := by
  cases hk : isC c with
  | false =>
    have IS := Lib.hid (is_any c w)
    rw [hk] at IS
    clear hk h
    go_enter Try.func12, Try.ntmps12
    go_wp2_with fail
    refine IS.out.mono ?_
    rintro r w' ⟨rfl, rfl⟩
    go_wp2_with fail
    go_ret
    exact ⟨rfl, rfl⟩
  | true =>
    obtain ⟨h0, h8⟩ := of_decide_eq_true hk
    obtain ⟨k, rfl⟩ := Int.eq_ofNat_of_zero_le h0
    have r := h.cells.1 k (by omega)
    have IS := Lib.hid (is_any k w)
    rw [hk] at IS
    have h8' : (k : Int) < 8 := h8
    simp only [Int.toNat_natCast, if_true]
    clear hk h h0 h8
    go_enter Try.func12, Try.ntmps12
    go_wp2_with fail
    refine IS.out.mono ?_
    rintro r w' ⟨rfl, rfl⟩
    go_wp2_with fail
    go_ret
    exact ⟨rfl, rfl⟩
/-- What a retired tid leaves of a cell. -/
def retCel (tid cut : Int) (k : Cel) : Cel := ⟨k.b, retX k.x tid cut, retL k.l tid, retT k.l k.tl tid cut⟩
def PRetPost (B b mb n : Nat) (M : Int → Option Rce) (cs : Nat → Cel) (tid cut : Int) (w : World) (r : Ending) (w' : World) : Prop :=
  r = .returned (.int .i64 0) ∧ Rp B w' b mb n 8 M (fun i => retCel tid cut (cs i)) ∧ Turned (fun i => ∃ j, j < 8 ∧ i = (cs j).b) w w'
theorem run_idx8_0 (w : World) (p0 p1 p2 p3 p4 p5 p6 p7 : Value) : (Instr.index 78 (.agg #[p0, p1, p2, p3, p4, p5, p6, p7]) (.int .i64 0)).run Try.prog w = .ok p0 w := by kernel_rfl
theorem run_idx8_1 (w : World) (p0 p1 p2 p3 p4 p5 p6 p7 : Value) : (Instr.index 78 (.agg #[p0, p1, p2, p3, p4, p5, p6, p7]) (.int .i64 1)).run Try.prog w = .ok p1 w := by kernel_rfl
theorem run_idx8_2 (w : World) (p0 p1 p2 p3 p4 p5 p6 p7 : Value) : (Instr.index 78 (.agg #[p0, p1, p2, p3, p4, p5, p6, p7]) (.int .i64 2)).run Try.prog w = .ok p2 w := by kernel_rfl
theorem run_idx8_3 (w : World) (p0 p1 p2 p3 p4 p5 p6 p7 : Value) : (Instr.index 78 (.agg #[p0, p1, p2, p3, p4, p5, p6, p7]) (.int .i64 3)).run Try.prog w = .ok p3 w := by kernel_rfl
theorem run_idx8_4 (w : World) (p0 p1 p2 p3 p4 p5 p6 p7 : Value) : (Instr.index 78 (.agg #[p0, p1, p2, p3, p4, p5, p6, p7]) (.int .i64 4)).run Try.prog w = .ok p4 w := by kernel_rfl
theorem run_idx8_5 (w : World) (p0 p1 p2 p3 p4 p5 p6 p7 : Value) : (Instr.index 78 (.agg #[p0, p1, p2, p3, p4, p5, p6, p7]) (.int .i64 5)).run Try.prog w = .ok p5 w := by kernel_rfl
theorem run_idx8_6 (w : World) (p0 p1 p2 p3 p4 p5 p6 p7 : Value) : (Instr.index 78 (.agg #[p0, p1, p2, p3, p4, p5, p6, p7]) (.int .i64 6)).run Try.prog w = .ok p6 w := by kernel_rfl
theorem run_idx8_7 (w : World) (p0 p1 p2 p3 p4 p5 p6 p7 : Value) : (Instr.index 78 (.agg #[p0, p1, p2, p3, p4, p5, p6, p7]) (.int .i64 7)).run Try.prog w = .ok p7 w := by kernel_rfl
theorem run_idx8 (w : World) (cs : Nat → Cel) (k : Nat) (hk : k < 8) : (Instr.index 78 (.agg #[.pointer (some ⟨(cs 0).b, 0, none⟩), .pointer (some ⟨(cs 1).b, 0, none⟩), .pointer (some ⟨(cs 2).b, 0, none⟩), .pointer (some ⟨(cs 3).b, 0, none⟩), .pointer (some ⟨(cs 4).b, 0, none⟩), .pointer (some ⟨(cs 5).b, 0, none⟩), .pointer (some ⟨(cs 6).b, 0, none⟩), .pointer (some ⟨(cs 7).b, 0, none⟩)]) (.int .i64 k)).run Try.prog w = .ok (.pointer (some ⟨(cs k).b, 0, none⟩)) w := by
  match k, hk with
  | 0, _ => exact run_idx8_0 w _ _ _ _ _ _ _ _
  | 1, _ => exact run_idx8_1 w _ _ _ _ _ _ _ _
  | 2, _ => exact run_idx8_2 w _ _ _ _ _ _ _ _
  | 3, _ => exact run_idx8_3 w _ _ _ _ _ _ _ _
  | 4, _ => exact run_idx8_4 w _ _ _ _ _ _ _ _
  | 5, _ => exact run_idx8_5 w _ _ _ _ _ _ _ _
  | 6, _ => exact run_idx8_6 w _ _ _ _ _ _ _ _
  | 7, _ => exact run_idx8_7 w _ _ _ _ _ _ _ _
theorem rret_bad2 (B b mb n : Nat) (M : Int → Option Rce) (cs : Nat → Cel) (tid cut : Int) (w : World) (h : Rp B w b mb n 8 M cs) (hb : retBad tid cut = true) :
    Calls Try.prog 9 #[.pointer (some ⟨b, 0, none⟩), .int .i64 tid, .int .i64 cut] w fun r w' => r = .returned (.int .i64 1) ∧ Below w.heap.size w w' := by
  have R3 := Lib.hid (fun X ac => cret_bad ac tid cut X hb)
  obtain ⟨cc, -⟩ := h.cells
  have c0 := cc 0 (by omega)
  have c1 := cc 1 (by omega)
  have c2 := cc 2 (by omega)
  have c3 := cc 3 (by omega)
  have c4 := cc 4 (by omega)
  have c5 := cc 5 (by omega)
  have c6 := cc 6 (by omega)
  have c7 := cc 7 (by omega)
  have IX := run_idx8_0 w (.pointer (some ⟨(cs 0).b, 0, none⟩)) (.pointer (some ⟨(cs 1).b, 0, none⟩)) (.pointer (some ⟨(cs 2).b, 0, none⟩)) (.pointer (some ⟨(cs 3).b, 0, none⟩)) (.pointer (some ⟨(cs 4).b, 0, none⟩)) (.pointer (some ⟨(cs 5).b, 0, none⟩)) (.pointer (some ⟨(cs 6).b, 0, none⟩)) (.pointer (some ⟨(cs 7).b, 0, none⟩))
  clear h cc
  go_enter Try.func9, Try.ntmps9
  go_wp2_with fail
  go_loopw [19] (fun i wr => i = .int .i64 0 ∧ wr = w) (fun _ _ => 0)
  case atStart => exact ⟨rfl, rfl⟩
  case round =>
    obtain ⟨rfl, rfl⟩ := hrel
    go_wp2_with fail
    refine (R3.out wr _).mono ?_
    rintro r w2 ⟨rfl, hb2⟩
    have B2 := Lib.hid hb2
    clear hb2
    go_wp2_with fail
    go_ret
    exact ⟨rfl, B2.out⟩
set_option maxHeartbeats 1000000 in
theorem pret_any (B b mb n : Nat) (M : Int → Option Rce) (cs : Nat → Cel) (tid cut : Int) (w : World) (h : Rp B w b mb n 8 M cs) (hb : retBad tid cut = false) :
    Calls Try.prog 9 #[.pointer (some ⟨b, 0, none⟩), .int .i64 tid, .int .i64 cut] w (PRetPost B b mb n M cs tid cut w) := by
  obtain ⟨cc, -⟩ := h.cells
  have c0 := cc 0 (by omega)
  have c1 := cc 1 (by omega)
  have c2 := cc 2 (by omega)
  have c3 := cc 3 (by omega)
  have c4 := cc 4 (by omega)
  have c5 := cc 5 (by omega)
  have c6 := cc 6 (by omega)
  have c7 := cc 7 (by omega)
  have IX := Lib.hid (fun X k hk => run_idx8 X cs k hk)
  have HR := Lib.hid h
  have HG := Lib.hid hb
  clear h cc hb
  go_enter Try.func9, Try.ntmps9
  go_wp2_with fail
  go_loopw [19] (fun i wr => ∃ k : Nat, k ≤ 8 ∧ i = .int .i64 k ∧ Rp B wr b mb n 8 M (fun i => if i < k then retCel tid cut (cs i) else cs i) ∧ Turned (fun i => ∃ j, j < 8 ∧ i = (cs j).b) w wr) (fun i _ => 8 - (intOf i).toNat)
  case atStart => exact ⟨0, by omega, rfl, by simpa using HR.out, Turned.refl _ _⟩
  case round =>
    obtain ⟨k, hk, rfl, hr, ht⟩ := hrel
    have R1 := Lib.hid hr
    have T1 := Lib.hid ht
    clear hr ht
    by_cases hlt : k < 8
    · have hlt' : (k : Int) < 8 := by omega
      have ix := IX.out wr k hlt
      have DO := Lib.hid (ce_ret (show Ce B wr (cs k).b (cs k).x (cs k).l (cs k).tl from by have := R1.out.ce k hlt; simp only [Nat.lt_irrefl, if_false] at this; exact this) tid cut HG.out)
      go_wp2_with fail
      refine DO.out.mono ?_
      rintro r w2 ⟨rfl, ht2, hc2⟩
      have R2 := Lib.hid (R1.out.turn hlt (k := retCel tid cut (cs k)) (by simp only [Nat.lt_irrefl, if_false]; exact ht2) hc2 (by simp only [Nat.lt_irrefl, if_false]; rfl))
      have T2 := Lib.hid (T1.out.trans ht2 (fun _ _ hh => hh) (fun i _ hh => ⟨k, hlt, hh⟩))
      clear ht2 hc2
      go_wp2_with fail
      go_roundw
      case rel => exact ⟨k + 1, by omega, by go_num, by
        have e : (fun i => if i < k + 1 then retCel tid cut (cs i) else cs i) = updCel (fun i => if i < k then retCel tid cut (cs i) else cs i) k (retCel tid cut (cs k)) := by
          funext i
          unfold updCel
          by_cases h1 : i = k
          · subst h1; simp
          · by_cases h2 : i < k
            · rw [if_pos (by omega), if_neg h1]; simp only [h2, if_true]
            · rw [if_neg (by omega), if_neg h1]; simp only [h2, if_false]
        rw [e]; exact R2.out, T2.out⟩
      case measure => simp [intOf] <;> omega
    · have hge : (8 : Int) ≤ k := by omega
      have R8 := Lib.hid (show Rp B wr b mb n 8 M (fun i => retCel tid cut (cs i)) from by
        have e := R1.out
        refine ⟨?_, fun i hi => ?_, fun i j hi hj hne => ?_, e.mp, e.low⟩
        · rw [e.blk]
          unfold rpV pt
          simp
          refine ⟨?_, ?_, ?_, ?_, ?_, ?_, ?_, ?_⟩ <;> (rw [if_pos (by omega)])
        · have h1 := e.ce i hi
          simp only [show i < k from by omega, if_true] at h1
          exact h1
        · have h1 := e.ap i j hi hj hne
          simp only [show i < k from by omega, show j < k from by omega, if_true] at h1
          exact h1)
      go_wp2_with fail
      go_ret
      exact ⟨rfl, R8.out, T1.out⟩
end Go.Proofs.Ytkcnbkdpjlpppaa

