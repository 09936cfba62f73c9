
/-
  staithelaw15: fetches, SlotsNil.
-/
import Derived.Test.YtlkfhobacgnckaaSlJ
namespace Go.Proofs.Ytlkfhobacgnckaa
open Go.RowKit
set_option linter.unusedVariables false
set_option linter.unusedSimpArgs false
set_option maxRecDepth 100000

theorem SlAt.ofd {B s : Nat} {w w' : World} {F F' : Nat → Option Ck} {vS vR : Value} {sb rb : List Nat} {cb : Option Nat} {M : Md} (h : SlAt B s w F vS vR sb rb cb M) (hf : Fam B w' F') (hs : Same F F') (hB : Below w.heap.size w w') : SlAt B s w' F' vS vR sb rb cb M :=
  h.keep hf hs (keepT_below hB) (keepT_below hB) (Nat.le_trans h.bw hB.size)
/-- clock.Of, beside slots. -/
def SlOf (B s : Nat) (F : Nat → Option Ck) (vS vR : Value) (sb rb : List Nat) (cb : Option Nat) (M : Md) (l : List Int) (w : World) (r : Ending) (w' : World) : Prop :=
  ∃ b F', r = .returned (.tuple #[.pointer (some ⟨b, 0, none⟩), .int .i64 0]) ∧ SlAt B s w' F' vS vR sb rb cb M ∧ Has F' b l ∧ w.heap.size ≤ b ∧ Same F F' ∧ KeepS B w w'
theorem sl_of {B s : Nat} {w : World} {F : Nat → Option Ck} {vS vR : Value} {sb rb : List Nat} {cb : Option Nat} {M : Md} (h : SlAt B s w F vS vR sb rb cb M) (v : Value) (l : List Int) (hs : Src w v l) (h0 : ofE l = 0) :
    Calls Try.prog 10 #[v] w (SlOf B s F vS vR sb rb cb M l w) := by
  refine (fam_of h.fam h.bw v l hs).mono ?_
  rintro r w' (⟨_, b, F', rfl, hf, hb, hlt, hsame, hB⟩ | ⟨h1, _⟩)
  · exact ⟨b, F', rfl, h.ofd hf hsame hB, hb, hlt, hsame, keepS_below h.bw hB⟩
  · exact absurd h0 h1
theorem KeepS.bel {B : Nat} {w w' : World} (h : KeepS B w w') (hB : B = w.heap.size) : Below w.heap.size w w' := by
  have := h.2 w (by omega) (by rw [hB]; exact Below.refl _ _)
  rw [hB] at this
  exact this
theorem SlAt.alloc {B s : Nat} {w : World} {F : Nat → Option Ck} {vS vR : Value} {sb rb : List Nat} {cb : Option Nat} {M : Md} (h : SlAt B s w F vS vR sb rb cb M) (o : Obj) : SlAt B s (w.alloc o) F vS vR sb rb cb M ∧ KeepS B w (w.alloc o) :=
  ⟨h.below ((Below.refl _ _).alloc (Nat.le_refl _) _), keepS_below h.bw ((Below.refl _ _).alloc (Nat.le_refl _) _)⟩

set_option maxHeartbeats 1000000 in
theorem fetches_any (w : World) : Calls Try.prog 9 #[] w (RetB (.bool true) w) := by
  go_enter Try.func9, Try.ntmps9
  go_wp2_with fail
  refine (snew_any 1 w).mono ?_
  rintro r w1 (⟨_, rfl, hA, hB⟩ | ⟨h, _⟩)
  rotate_left
  · exact absurd (by decide) h
  obtain ⟨B, hBe⟩ : ∃ B, w.heap.size = B := ⟨_, rfl⟩
  rw [hBe] at hA hB ⊢
  have EB := Lib.hid hBe
  have A1 := Lib.hid hA
  have K1 := Lib.hid (keepS_below (B := B) (by omega) (hBe ▸ hB : Below w.heap.size w w1))
  clear hA hB hBe
  go_wp2_with fail
  obtain ⟨A2, k2⟩ := A1.out.alloc (.cells #[.int .i64 1] 3)
  refine (sl_of A2 _ [1] (src_lit w1 [1] (by decide)) (by decide)).mono ?_
  rintro r w2 ⟨a, F2, rfl, hA2, ha, hlt2, hs2, hk2⟩
  have K2 := Lib.hid ((K1.out.trans k2).trans hk2)
  have HA2 := Lib.hid hA2
  have Ha := Lib.hid ha
  clear A2 k2 hA2 ha hlt2 hs2 hk2 A1 K1
  go_wp2_with fail
  obtain ⟨A3, k3⟩ := HA2.out.alloc (.cells #[.int .i64 2] 3)
  refine (sl_of A3 _ [2] (src_lit w2 [2] (by decide)) (by decide)).mono ?_
  rintro r w3 ⟨b, F3, rfl, hA3, hb, hlt3, hs3, hk3⟩
  have K3 := Lib.hid ((K2.out.trans k3).trans hk3)
  have HA3 := Lib.hid hA3
  have Ha3 := Lib.hid (Ha.out.same hs3)
  have Hb := Lib.hid hb
  clear A3 k3 hA3 hb hlt3 hs3 hk3 HA2 K2 Ha
  go_wp2_with fail
  refine (send_any HA3.out (Md.new_ok 1 (by decide)) (by decide) a [1] Ha3.out).mono ?_
  rintro r w4 ⟨p, vS4, vR4, sb4, rb4, F4, rfl, hA4, hs4, hf4, ho4, hk4⟩
  obtain rfl : p = none := hf4
  rw [show (Md.new (Int.toNat 1)).sendE = 0 by decide]
  have HA4 := Lib.hid hA4
  have Ha4 := Lib.hid (Ha3.out.same hs4)
  have Hb4 := Lib.hid (Hb.out.same hs4)
  have K4 := Lib.hid (K3.out.trans hk4)
  clear hA4 hs4 ho4 hk4 HA3 K3 Ha3 Hb
  go_wp2_with fail
  refine (recv_any HA4.out (Md.send_ok (Md.new_ok 1 (by decide)) _) (by decide) b [2] Hb4.out).mono ?_
  rintro r w5 ⟨p, vS5, vR5, sb5, rb5, F5, rfl, hA5, hs5, hf5, ho5, hk5⟩
  obtain ⟨x, rfl, hx, hxn⟩ : ∃ x, p = some ⟨x, 0, none⟩ ∧ Has F5 x [1] ∧ x ∉ sb5 ++ rb5 ++ (none : Option Nat).toList := hf5
  rw [show ((Md.new (Int.toNat 1)).send [1]).recvE = 0 by decide]
  have HA5 := Lib.hid hA5
  have Ha5 := Lib.hid (Ha4.out.same hs5)
  have Hx := Lib.hid hx
  have K5 := Lib.hid (K4.out.trans hk5)
  clear hA5 hs5 ho5 hk5 HA4 K4 Ha4 Hb4 hx hxn
  go_wp2_with fail
  refine (send_any HA5.out (Md.recv_ok (Md.send_ok (Md.new_ok 1 (by decide)) _) _) (by decide) a [1] Ha5.out).mono ?_
  rintro r w6 ⟨p, vS6, vR6, sb6, rb6, F6, rfl, hA6, hs6, hf6, ho6, hk6⟩
  obtain ⟨y, rfl, hy, hyn⟩ : ∃ y, p = some ⟨y, 0, none⟩ ∧ Has F6 y [2] ∧ y ∉ sb6 ++ rb6 ++ (none : Option Nat).toList := hf6
  rw [show (((Md.new (Int.toNat 1)).send [1]).recv [2]).sendE = 0 by decide]
  have HA6 := Lib.hid hA6
  have Hx6 := Lib.hid (Hx.out.same hs6)
  have Hy := Lib.hid hy
  have K6 := Lib.hid (K5.out.trans hk6)
  clear hA6 hs6 ho6 hk6 HA5 K5 Ha5 Hx hy hyn
  go_wp2_with fail
  refine (fam_list HA6.out.fam x [1] Hx6.out).mono ?_
  rintro r w7 ⟨v7, rfl, hv7, hB7⟩
  have HA7 := Lib.hid (HA6.out.below hB7)
  have K7 := Lib.hid (K6.out.trans (keepS_below HA6.out.bw hB7))
  have V7 := Lib.hid hv7
  clear hv7 hB7 K6
  go_wp2_with fail
  have BA := (Below.refl w7.heap.size w7).alloc (Nat.le_refl _) (.cells #[.int .i64 1] 3)
  refine (ints_any _ _ [1] [1] _ (V7.out.below (Nat.le_refl _) BA) (src_lit w7 [1] (by decide)) (by decide) (by decide)).mono ?_
  rintro r w8 ⟨rfl, m8, hw8⟩
  have B8 : Below w7.heap.size w7 w8 := by rw [hw8]; exact below_drewN BA _
  have HA8 := Lib.hid (HA7.out.below B8)
  have K8 := Lib.hid (K7.out.trans (keepS_below HA7.out.bw B8))
  clear BA hw8 B8 HA7 K7 V7 HA6 Hx6
  have d1 : decide (([1] : List Int) = [1]) = true := by decide
  rw [d1]
  clear d1
  go_wp2_with fail
  refine (fam_list HA8.out.fam y [2] Hy.out).mono ?_
  rintro r w9 ⟨v9, rfl, hv9, hB9⟩
  have HA9 := Lib.hid (HA8.out.below hB9)
  have K9 := Lib.hid (K8.out.trans (keepS_below HA8.out.bw hB9))
  have V9 := Lib.hid hv9
  clear hv9 hB9 K8 HA8
  go_wp2_with fail
  have BA := (Below.refl w9.heap.size w9).alloc (Nat.le_refl _) (.cells #[.int .i64 2] 3)
  refine (ints_any _ _ [2] [2] _ (V9.out.below (Nat.le_refl _) BA) (src_lit w9 [2] (by decide)) (by decide) (by decide)).mono ?_
  rintro r w10 ⟨rfl, m10, hw10⟩
  have B10 : Below w9.heap.size w9 w10 := by rw [hw10]; exact below_drewN BA _
  have HA10 := Lib.hid (HA9.out.below B10)
  have K10 := Lib.hid (K9.out.trans (keepS_below HA9.out.bw B10))
  clear BA hw10 B10 HA9 K9 V9 Hy
  have d1 : decide (([2] : List Int) = [2]) = true := by decide
  rw [d1]
  clear d1
  go_wp2_with fail
  have l1 : sb6.length = 1 := HA10.out.hS.len
  have l2 : rb6.length = 0 := HA10.out.hR.len
  refine (held_any HA10.out (by omega) (by omega)).mono ?_
  rintro r w11 ⟨v, hb, F11, rfl, hrow, hf11, _, hh, _, _, hk11⟩
  have hl : hb.length = 1 := hh.len
  rw [hl] at hrow
  obtain ⟨ao, cap, rfl⟩ := owns_slice hrow
  have KF := Lib.hid (K10.out.trans hk11.s)
  clear l1 l2 hrow hf11 hh hk11 hl HA10 K10
  go_wp2_with fail
  go_ret
  exact ⟨rfl, KF.out.bel EB.out.symm⟩

theorem snil_law (x : Bool) (t : Int) (w : World) : Calls Try.prog 7 #[.bool x, .int .i64 t] w (RetB (.bool true) w) := by
  go_enter Try.func7, Try.ntmps7
  go_wp2_with fail
  refine (send_nil _ _).mono ?_
  rintro r w1 ⟨rfl, rfl⟩
  go_wp2_with fail
  refine (recv_nil _ _).mono ?_
  rintro r w1 ⟨rfl, rfl⟩
  go_wp2_with fail
  refine (peek_nil _ _).mono ?_
  rintro r w1 ⟨rfl, rfl⟩
  go_wp2_with fail
  refine (closed_nil _).mono ?_
  rintro r w1 ⟨rfl, rfl⟩
  go_wp2_with fail
  refine (counts_nil _).mono ?_
  rintro r w1 ⟨rfl, rfl⟩
  go_wp2_with fail
  refine (drop_nil _ _).mono ?_
  rintro r w1 ⟨rfl, rfl⟩
  go_wp2_with fail
  refine (sclose_nil _ _).mono ?_
  rintro r w1 ⟨rfl, rfl⟩
  go_wp2_with fail
  refine (held_nil _).mono ?_
  rintro r w1 ⟨rfl, rfl⟩
  go_wp2_with fail
  refine (fetches_any _).mono ?_
  rintro r w1 ⟨rfl, hB⟩
  go_wp2_with fail
  go_ret
  exact ⟨rfl, hB⟩

end Go.Proofs.Ytlkfhobacgnckaa

