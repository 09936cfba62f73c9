
/-
  What Copy and Set of a clock do to a family, and to what lies beside it.
-/
import Derived.Test.YtlkfhobacgnckaaFam
import Derived.Test.YtlkfhobacgnckaaKeep
namespace Go.Proofs.Ytlkfhobacgnckaa
open Go.RowKit
set_option linter.unusedVariables false
set_option linter.unusedSimpArgs false
set_option maxRecDepth 100000

/-- What a call that turns clocks keeps. -/
def KeepP (B : Nat) (w w' : World) : Prop := (∀ e, e ≠ 75 → e ≠ 3 → KeepT e w w') ∧ ∀ w0 : World, B ≤ w0.heap.size → Below B w0 w → Below B w0 w'
theorem KeepP.refl (B : Nat) (w : World) : KeepP B w w := ⟨fun _ _ _ => KeepT.refl _ _, fun _ _ h => h⟩
theorem KeepP.trans {B : Nat} {a b c : World} (h : KeepP B a b) (k : KeepP B b c) : KeepP B a c := ⟨fun e h1 h2 => (h.1 e h1 h2).trans (k.1 e h1 h2), fun w0 hw hb => k.2 w0 hw (h.2 w0 hw hb)⟩
theorem KeepP.below {B : Nat} {w w' : World} (hB : B ≤ w.heap.size) (h : Below w.heap.size w w') : KeepP B w w' := ⟨fun _ _ _ => keepT_below h, fun w0 hw hb => below_trans hb h hB⟩
theorem keepP_wrote {B : Nat} {w w' : World} {F : Nat → Option Ck} {b : Nat} {k k' : Ck} (h : Fam B w F) (hk : F b = some k) (hw : Wrote w b k k' w') : KeepP B w w' := by
  refine ⟨fun e h1 h2 => keepT_wrote (h.here b k hk) hw h1 h2, fun w0 hle hB => ?_⟩
  refine ⟨hw.2.1.os.trans hB.os, hw.2.1.tape.trans hB.tape, hw.2.1.output.trans hB.output, Nat.le_trans hB.size hw.2.1.size, fun i hi => ?_⟩
  exact (hw.2.1.block i (by have := hB.size; omega) (fun e => by have := Mine.low h hk i e; omega)).trans (hB.block i hi)

/-- The same clocks in their numbers, and perhaps others. -/
def Same (F F' : Nat → Option Ck) : Prop := ∀ b k, F b = some k → ∃ k', F' b = some k' ∧ ∀ u : Int, at0 k'.xs u = at0 k.xs u
theorem Same.refl (F : Nat → Option Ck) : Same F F := fun b k h => ⟨k, h, fun _ => rfl⟩
theorem Same.trans {F G H : Nat → Option Ck} (h : Same F G) (k : Same G H) : Same F H := fun b c hb => by
  obtain ⟨c1, h1, h2⟩ := h b c hb
  obtain ⟨c2, h3, h4⟩ := k b c1 h1
  exact ⟨c2, h3, fun u => (h4 u).trans (h2 u)⟩
/-- Clock b has these numbers. -/
def Has (F : Nat → Option Ck) (b : Nat) (l : List Int) : Prop := ∃ k, F b = some k ∧ ∀ u : Int, at0 k.xs u = at0 l u
theorem Has.same {F F' : Nat → Option Ck} {b : Nat} {l : List Int} (h : Has F b l) (hs : Same F F') : Has F' b l := by
  obtain ⟨k, h1, h2⟩ := h
  obtain ⟨k', h3, h4⟩ := hs b k h1
  exact ⟨k', h3, fun u => (h4 u).trans (h2 u)⟩
theorem Has.rest {F F' : Nat → Option Ck} {b b' : Nat} {l : List Int} (h : Has F b l) (hs : Rest F F' b') (hne : b ≠ b') : Has F' b l := by
  obtain ⟨k, h1, h2⟩ := h
  exact ⟨k, hs b k hne h1, h2⟩
theorem New.has {F : Nat → Option Ck} {b b' : Nat} {l : List Int} (h : New F b) (hb : Has F b' l) : b' ≠ b := by
  obtain ⟨k, h1, _⟩ := hb
  exact h b' k h1
theorem Fam.lt {B : Nat} {w : World} {F : Nat → Option Ck} (h : Fam B w F) {b : Nat} {l : List Int} (hb : Has F b l) : b < w.heap.size := by
  obtain ⟨k, h1, _⟩ := hb
  exact (h.here b k h1).lt
theorem Fam.fresh {B : Nat} {w : World} {F : Nat → Option Ck} (h : Fam B w F) {b : Nat} (hb : w.heap.size ≤ b) : New F b := fun b' k' e => by have := (h.here b' k' e).lt; omega

def FamCopy (B : Nat) (F : Nat → Option Ck) (l : List Int) (w : World) (r : Ending) (w' : World) : Prop :=
  ∃ b' F', r = .returned (.pointer (some ⟨b', 0, none⟩)) ∧ Fam B w' F' ∧ Has F' b' l ∧ w.heap.size ≤ b' ∧ Same F F' ∧ KeepP B w w'
theorem FamCopy.drew {B : Nat} {F : Nat → Option Ck} {l : List Int} {w w' : World} {r : Ending} (h : FamCopy B F l w r w') : FamCopy B F l w r w'.drew := by
  obtain ⟨b', F', h1, h2, h3, h4, h5, h6⟩ := h
  exact ⟨b', F', h1, h2.keep (fun _ _ _ _ => rfl) (fun _ _ _ _ => rfl), h3, h4, h5, fun e x y => (h6.1 e x y).trans (fun _ _ _ _ => rfl), fun w0 hw hb => (h6.2 w0 hw hb).drew⟩
theorem fam_copy {B : Nat} {w : World} {F : Nat → Option Ck} (h : Fam B w F) (hBw : B ≤ w.heap.size) (b : Nat) (l : List Int) (hb : Has F b l) :
    Calls Try.prog 35 #[.pointer (some ⟨b, 0, none⟩)] w (FamCopy B F l w) := by
  obtain ⟨k, hF, hl⟩ := hb
  refine (copy_any b k w (h.here b k hF)).mono ?_
  rintro r w' ⟨b', hb', rfl, hn, hs, htu⟩
  have hc := h.here b k hF
  have hlt := hc.lt
  have hlo := h.low b k hF
  have hnew : New F b' := h.fresh hb'
  have hne : b ≠ b' := hnew b k hF
  have f1 : Fam B w' (upd F b ⟨k.arr, k.xs, true⟩) := by
    refine ⟨fun b2 k2 e => ?_, fun b2 b3 k2 k3 e e2 hnx hp hp' ea => ?_, fun b2 k2 e => ?_⟩
    · by_cases hb : b2 = b
      · subst hb; rw [upd_self] at e; cases e; exact hs
      · simp [upd, hb] at e
        have hc2 := h.here b2 k2 e
        exact hc2.frame fun i hi hh => htu.block i hi (by
          rintro rfl
          rcases hh with rfl | ⟨hp, rfl⟩
          · exact hb rfl
          · exact (hc.ne hc2 hp) rfl)
    · by_cases hb : b2 = b
      · subst hb
        rw [upd_self] at e
        cases e
        have hb2 : b3 ≠ b2 := fun e => hnx e.symm
        simp [upd, hb2] at e2
        exact ⟨rfl, (h.apart b2 b3 k k3 hF e2 hnx hp hp' ea).2⟩
      · simp [upd, hb] at e
        by_cases hb2 : b3 = b
        · subst hb2
          rw [upd_self] at e2
          cases e2
          exact ⟨(h.apart b2 b3 k2 k e hF hnx hp hp' ea).1, rfl⟩
        · simp [upd, hb2] at e2
          exact h.apart b2 b3 k2 k3 e e2 hnx hp hp' ea
    · by_cases hb : b2 = b
      · subst hb
        rw [upd_self] at e
        cases e
        exact hlo
      · simp [upd, hb] at e
        exact h.low b2 k2 e
  have f2 : Fam B w' (upd (upd F b ⟨k.arr, k.xs, true⟩) b' ⟨k.arr, k.xs, true⟩) := by
    refine f1.new hn (Nat.le_trans hBw hb') hlo.2 fun b2 k2 e => ?_
    by_cases hb : b2 = b
    · subst hb
      rw [upd_self] at e
      cases e
      exact ⟨hne, fun _ _ _ => ⟨rfl, rfl⟩⟩
    · simp [upd, hb] at e
      exact ⟨hnew b2 k2 e, fun hp hp' ea => ⟨rfl, (h.apart b b2 k k2 hF e (fun e => hb e.symm) hp hp' ea).2⟩⟩
  refine ⟨b', _, rfl, f2, ⟨_, upd_self _ _ _, hl⟩, hb', fun b2 k2 e => ?_, fun e h1 h2 => keepT_turned htu (fun i cur fz hi => ?_), fun w0 hw hb => ?_⟩
  · have h2 := hnew b2 k2 e
    by_cases hb2 : b2 = b
    · subst hb2
      rw [hF] at e
      cases e
      exact ⟨_, upd_ne h2 (upd_self _ _ _), fun _ => rfl⟩
    · exact ⟨k2, upd_ne h2 (upd_ne hb2 e), fun _ => rfl⟩
  · rintro rfl
    obtain ⟨ao, cap, hh, _⟩ := hc
    rw [hh] at hi
    have := Option.some.inj hi
    injection this with e1 e2
    exact h1 e2.symm
  · exact htu.below hb hw (fun i e => by rw [e]; exact hlo.1)

/-- A tid's number set to 0. -/
def drop0 (t : Int) (l : List Int) : List Int := if 0 ≤ t ∧ t < 256 then l.set t.toNat 0 else l
theorem at0_set0 (l : List Int) (t : Nat) (u : Int) : at0 (l.set t 0) u = if u = t then 0 else at0 l u := by
  by_cases h : t < l.length
  · exact at0_set l t 0 u h
  · rw [List.set_eq_of_length_le (by omega)]
    split
    · rename_i e; subst e; exact at0_out (by omega)
    · rfl
theorem at0_drop0 {xs ys : List Int} (t : Int) (h : ∀ u : Int, at0 xs u = at0 ys u) (u : Int) : at0 (drop0 t xs) u = at0 (drop0 t ys) u := by
  unfold drop0
  split
  · rw [at0_set0, at0_set0, h]
  · exact h u

def FamDrop (B : Nat) (F : Nat → Option Ck) (b : Nat) (l : List Int) (t : Int) (w : World) (r : Ending) (w' : World) : Prop :=
  ∃ v F', r = .returned v ∧ Fam B w' F' ∧ Has F' b (drop0 t l) ∧ Rest F F' b ∧ KeepP B w w'
theorem fam_drop {B : Nat} {w : World} {F : Nat → Option Ck} (h : Fam B w F) (b : Nat) (l : List Int) (hb : Has F b l) (t : Int) :
    Calls Try.prog 18 #[.pointer (some ⟨b, 0, none⟩), .int .i64 t, .int .i64 0] w (FamDrop B F b l t w) := by
  by_cases ht : 0 ≤ t ∧ t < 256
  · obtain ⟨k, hF, hl⟩ := hb
    obtain ⟨t', rfl⟩ := Int.eq_ofNat_of_zero_le ht.1
    refine (set_yes b k t' 0 w (h.here b k hF) (by omega) (by omega) (by omega)).mono ?_
    rintro r w' ⟨k', rfl, hw, hat⟩
    refine ⟨_, upd F b k', rfl, h.wrote hF hw, ⟨k', upd_self _ _ _, fun u => ?_⟩, fun b' k' hne e => upd_ne hne e, keepP_wrote h hF hw⟩
    unfold drop0
    rw [if_pos ht, hat u, Int.toNat_natCast, at0_set0, hl]
  · refine (set_no _ t 0 w (fun h => ht h.1)).mono ?_
    rintro r w' ⟨rfl, rfl⟩
    refine ⟨_, F, rfl, h, ?_, fun _ _ _ e => e, KeepP.refl _ _⟩
    unfold drop0
    rw [if_neg ht]
    exact hb

/-- A new clock of numbers. -/
def FamOf (B : Nat) (F : Nat → Option Ck) (l : List Int) (w : World) (r : Ending) (w' : World) : Prop :=
  (ofE l = 0 ∧ ∃ b F', r = .returned (.tuple #[.pointer (some ⟨b, 0, none⟩), .int .i64 0]) ∧ Fam B w' F' ∧ Has F' b l ∧ w.heap.size ≤ b ∧ Same F F' ∧ Below w.heap.size w w') ∨
  (ofE l ≠ 0 ∧ r = .returned (.tuple #[.pointer none, .int .i64 (ofE l)]) ∧ w = w')
theorem fam_of {B : Nat} {w : World} {F : Nat → Option Ck} (h : Fam B w F) (hBw : B ≤ w.heap.size) (v : Value) (l : List Int) (hs : Src w v l) :
    Calls Try.prog 10 #[v] w (FamOf B F l w) := by
  refine (of_any v l w hs).mono ?_
  rintro r w' (⟨h0, b, g, rfl, hk, hB, hg, hb⟩ | ⟨h0, rfl, rfl⟩)
  · have hnew : New F b := h.fresh hb
    refine .inl ⟨h0, b, upd F b ⟨g, l, false⟩, rfl, (h.below hB).new hk (Nat.le_trans hBw hb) (fun _ => Nat.le_trans hBw hg) (fun b' k' e => ⟨hnew b' k' e, fun _ hp ea => ?_⟩), ⟨_, upd_self _ _ _, fun _ => rfl⟩, hb, fun b' k' e => ⟨k', upd_ne (hnew b' k' e) e, fun _ => rfl⟩, hB⟩
    have h1 := (h.here b' k' e).arr_lt hp
    have h2 : g = k'.arr := ea
    omega
  · exact .inr ⟨h0, rfl, rfl⟩
theorem Same.rest {F F' G : Nat → Option Ck} {b : Nat} (h : Same F F') (hr : Rest F' G b) (hn : ∀ k, F b ≠ some k) : Same F G := fun b' k e => by
  obtain ⟨k', h1, h2⟩ := h b' k e
  exact ⟨k', hr b' k' (fun eb => hn k (eb ▸ e)) h1, h2⟩

/-- Tick of a clock of the family. -/
def FamTick (B : Nat) (F : Nat → Option Ck) (b : Nat) (w : World) (r : Ending) (w' : World) : Prop :=
  ∃ v F', r = .returned v ∧ Fam B w' F' ∧ (∃ l, Has F' b l) ∧ Rest F F' b ∧ KeepP B w w'
theorem fam_tick {B : Nat} {w : World} {F : Nat → Option Ck} (h : Fam B w F) (b : Nat) (l : List Int) (hb : Has F b l) (t : Int) :
    Calls Try.prog 21 #[.pointer (some ⟨b, 0, none⟩), .int .i64 t, .int .i64 1048576] w (FamTick B F b w) := by
  by_cases ht : 0 ≤ t ∧ t < 256
  · obtain ⟨k, hF, hl⟩ := hb
    obtain ⟨t', rfl⟩ := Int.eq_ofNat_of_zero_le ht.1
    refine (tick_any b k t' 1048576 w (h.here b k hF) (by omega) (by omega) (by omega)).mono ?_
    rintro r w' (⟨_, rfl, rfl⟩ | ⟨_, k', rfl, hw, hat⟩)
    · exact ⟨_, F, rfl, h, ⟨_, k, hF, fun _ => rfl⟩, fun _ _ _ e => e, KeepP.refl _ _⟩
    · exact ⟨_, upd F b k', rfl, h.wrote hF hw, ⟨_, k', upd_self _ _ _, fun _ => rfl⟩, fun b' k' hne e => upd_ne hne e, keepP_wrote h hF hw⟩
  · refine (tick_no _ t 1048576 w (fun h => ht h.1)).mono ?_
    rintro r w' ⟨rfl, rfl⟩
    exact ⟨_, F, rfl, h, ⟨_, hb⟩, fun _ _ _ e => e, KeepP.refl _ _⟩

def FamList (l : List Int) (w : World) (r : Ending) (w' : World) : Prop := ∃ v, r = .returned v ∧ Src w' v (trim l) ∧ Below w.heap.size w w'
theorem fam_list {B : Nat} {w : World} {F : Nat → Option Ck} (h : Fam B w F) (b : Nat) (l : List Int) (hb : Has F b l) :
    Calls Try.prog 20 #[.pointer (some ⟨b, 0, none⟩)] w (FamList l w) := by
  obtain ⟨k, hF, hl⟩ := hb
  refine (list_any b k w (h.here b k hF)).mono ?_
  rintro r w' ⟨v, rfl, ho, hB⟩
  have e : trim k.xs = trim l := trim_ext hl
  rw [e] at ho
  exact ⟨v, rfl, Src.of_owns ho, hB⟩

end Go.Proofs.Ytlkfhobacgnckaa

