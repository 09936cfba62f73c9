
/-
  Report: the statement's own example (two), ReportNil.
-/
import Derived.Test.YtkcnbkdpjlpppaaRptG
namespace Go.Proofs.Ytkcnbkdpjlpppaa
open Go.RowKit
set_option linter.unusedVariables false
set_option linter.unusedSimpArgs false
set_option maxRecDepth 100000

theorem Rp.ps {B : Nat} {w w0 : World} {b mb n c : Nat} {M : Int → Option Rce} {cs : Nat → Cel} (h : Rp B w b mb n 8 M cs) (hc : c < 8) : ∀ i, i < w0.heap.size → PS mb c cs i → B ≤ i := by
  intro i _ hi
  rcases hi with rfl | rfl
  · exact h.low.2.1
  · exact (h.ce c hc).low.1
set_option maxHeartbeats 1000000 in
theorem two_any (w : World) : Calls Try.prog 13 #[] w (RetB (.bool true) w) := by
  go_enter Try.func13, Try.ntmps13
  go_wp2_with fail
  refine (rep_new w.heap.size w (Nat.le_refl _)).mono ?_
  rintro r w1 ⟨⟨b, mb, cs, rfl, hr, hcs⟩, hB1⟩
  obtain ⟨x3, l3, t3⟩ := hcs 3 (by omega)
  have R1 := Lib.hid hr
  have B1 := Lib.hid hB1
  have X3 := Lib.hid (show cs 3 = ⟨(cs 3).b, 0, [], false⟩ from by rw [← x3, ← l3, ← t3])
  clear hr hB1 hcs x3 l3 t3
  go_wp2_with fail
  refine (pack_yes 0 1 w1 (by decide)).mono ?_
  rintro r w' ⟨rfl, rfl⟩
  go_wp2_with fail
  refine (pack_yes 1 1 w1 (by decide)).mono ?_
  rintro r w' ⟨rfl, rfl⟩
  go_wp2_with fail
  refine (ckv_new w1).mono ?_
  rintro r w2 ⟨c, rfl, hk, hb2⟩
  have R2 := Lib.hid (R1.out.below hb2)
  have B2 := Lib.hid (below_trans B1.out hb2 B1.out.size)
  have P2 := pput_any w.heap.size b mb 0 (fun _ => none) cs 5 0 3 true (ep 0 1) (some ⟨c, 0, none⟩) (fun _ => 0) w2 R2.out (by unfold maxLen; omega) (okE_u64 (by decide)) (by decide) (by omega) (by decide) hk
  unfold accV at P2
  clear hk hb2
  go_wp2_with fail
  refine P2.mono ?_
  rintro r w3 ⟨y, M', n', rfl, hn', hr3, ht3, hy⟩
  have f0 : celF true (cs 3) (ep 0 1) (fun _ => 0) = 0 := by rw [X3.out]; show writeV 0 [] false (ep 0 1) (fun _ => 0) = 0; decide
  dsimp only at hy hr3
  rw [f0] at hy
  rcases hy with ⟨_, rfl, rfl⟩ | ⟨h0, _⟩
  case inr => exact absurd rfl h0
  have R3 := Lib.hid hr3
  have T3 := Lib.hid (show Turned (fun i => w.heap.size ≤ i) w2 w3 from ht3.mono (R2.out.ps (by omega)))
  have Y3 := Lib.hid (show updCel cs 3 (celN true (cs 3) (ep 0 1) fun _ => 0) 3 = ⟨(cs 3).b, ep 0 1, [], false⟩ from by unfold updCel celN; rfl)
  have N3 := Lib.hid hn'
  clear hr3 ht3 P2 f0 hn'
  go_wp2_with fail
  refine (ckv_new w3).mono ?_
  rintro r w4 ⟨c2, rfl, hk, hb4⟩
  have R4 := Lib.hid (R3.out.below hb4)
  have P4 := pput_any w.heap.size b mb n' (fun _ => none) _ 8 1 3 true (ep 1 1) (some ⟨c2, 0, none⟩) (fun _ => 0) w4 R4.out (by have := N3.out; unfold maxLen; omega) (okE_u64 (by decide)) (by decide) (by omega) (by decide) hk
  have T4 := Lib.hid (T3.out.trans (turned_below hb4) (fun _ _ hh => hh) (fun _ _ hh => hh))
  unfold accV at P4
  clear hk hb4
  go_wp2_with fail
  refine P4.mono ?_
  rintro r w5 ⟨y, M', n2, rfl, hn2, hr5, ht5, hy⟩
  have f1 : celF true (updCel cs 3 (celN true (cs 3) (ep 0 1) fun _ => 0) 3) (ep 1 1) (fun _ => 0) = 1 := by rw [Y3.out]; show writeV (ep 0 1) [] false (ep 1 1) (fun _ => 0) = 1; decide
  dsimp only at hy hr5
  rw [f1] at hy
  rcases hy with ⟨h0, _⟩ | ⟨_, _, rfl, rfl⟩
  case inl => rcases h0 with h0 | h0 <;> simp at h0
  have R5 := Lib.hid hr5
  have T5 := Lib.hid (T4.out.trans ht5 (fun _ _ hh => hh) (R4.out.ps (by omega)))
  clear hr5 ht5 P4 f1 hn2
  go_wp2_with fail
  refine (rraces_any w.heap.size b mb n2 _ _ w5 R5.out).mono ?_
  rintro r w6 ⟨v, rfl, hv, hb6⟩
  have eu : upto (putM (fun _ => none) ((3 : Nat) : Int) ⟨((3 : Nat) : Int), 8, 1, 1, true⟩) 8 = [⟨3, 8, 1, 1, true⟩] := rfl
  rw [eu] at hv
  obtain ⟨ao, cap, rfl⟩ := hv.shape
  obtain ⟨g, o, rfl, q0, q1, q2, q3, q4⟩ := hv.at 0 (by simp)
  simp only [List.getD_cons_zero, Nat.zero_mul, Nat.add_zero] at q0 q1 q2 q3 q4
  simp only [List.length_singleton]
  have T6 := Lib.hid (T5.out.trans (turned_below hb6) (fun _ _ hh => hh) (fun _ _ hh => hh))
  clear hv hb6 eu
  go_wp2_with fail
  go_ret
  exact ⟨rfl, below_turned B2.out T6.out (Nat.le_refl _) (fun i hi => hi)⟩

def LawPost (w : World) (e : Ending) (w' : World) : Prop := e = .returned (.bool true) ∧ Below w.heap.size w w'
theorem rput_none (ac : Option Addr) (x : Acc) (e : Int) (w : World) (hu : U64 e) : Calls Try.prog 7 #[.pointer none, accV x, .int .u64 e, .pointer ac] w fun r w' => r = .returned (.tuple #[.bool false, .int .i64 (if fitA x e then 7 else 1)]) ∧ Below w.heap.size w w' := by
  cases h : fitA x e with
  | true => exact rput_nil ac x e w hu h
  | false => exact rput_bad _ ac x e w hu h
theorem nil_ways (a b c : Int) (wr : Bool) (e : Int) : ∃ k f, okE e = k ∧ fitA ⟨a, b, c, wr⟩ e = f ∧
    ((k = false ∧ f = false) ∨ (k = true ∧ f = false ∧ ¬ 0 ≤ c) ∨ (k = true ∧ f = false ∧ 0 ≤ c ∧ ¬ c < 8) ∨ (k = true ∧ f = false ∧ 0 ≤ c ∧ c < 8 ∧ ¬ 0 ≤ a) ∨ (k = true ∧ f = false ∧ 0 ≤ c ∧ c < 8 ∧ 0 ≤ a ∧ ¬ 0 ≤ b) ∨ (k = true ∧ f = true ∧ 0 ≤ c ∧ c < 8 ∧ 0 ≤ a ∧ 0 ≤ b)) := by
  refine ⟨_, _, rfl, rfl, ?_⟩
  cases hk : okE e with
  | false => exact .inl ⟨rfl, by unfold fitA; simp [hk]⟩
  | true =>
    by_cases h1 : 0 ≤ c
    · by_cases h2 : c < 8
      · by_cases h3 : 0 ≤ a
        · by_cases h4 : 0 ≤ b
          · exact .inr (.inr (.inr (.inr (.inr ⟨rfl, by unfold fitA isC; simp [hk, h1, h2, h3, h4], h1, h2, h3, h4⟩))))
          · exact .inr (.inr (.inr (.inr (.inl ⟨rfl, by unfold fitA isC; simp [hk, h1, h2, h3, h4], h1, h2, h3, h4⟩))))
        · exact .inr (.inr (.inr (.inl ⟨rfl, by unfold fitA isC; simp [hk, h1, h2, h3], h1, h2, h3⟩)))
      · exact .inr (.inr (.inl ⟨rfl, by unfold fitA isC; simp [hk, h1, h2], h1, h2⟩))
    · exact .inr (.inl ⟨rfl, by unfold fitA isC; simp [hk, h1], h1⟩)
theorem tid_ways (tid : Int) : ∃ z : Int, (if retBad tid 3 then 1 else 7) = z ∧ ((z = 1 ∧ ¬ 0 ≤ tid) ∨ (z = 1 ∧ 0 ≤ tid ∧ ¬ tid ≤ 255) ∨ (z = 7 ∧ 0 ≤ tid ∧ tid ≤ 255)) := by
  refine ⟨_, rfl, ?_⟩
  rcases ret_cases tid 3 with ⟨hv, h⟩ | ⟨hv, h1, h2, h3, h4⟩
  · rw [hv]
    simp only [if_true]
    by_cases h0 : 0 ≤ tid
    · exact .inr (.inl ⟨trivial, h0, by omega⟩)
    · exact .inl ⟨trivial, h0⟩
  · rw [hv]
    exact .inr (.inr ⟨by simp, by omega, by omega⟩)
end Go.Proofs.Ytkcnbkdpjlpppaa

