
/-
  ClockSteps: three clocks of both kinds, and what a step does to them.
-/
import Derived.Test.YtgomeofifaejfaaRefS
import Derived.Test.YtgomeofifaejfaaKeep
import Derived.Test.YtgomeofifaejfaaStructs
import Derived.Test.YtgomeofifaejfaaLaw2a
namespace Go.Proofs.Ytgomeofifaejfaa
open Go.RowKit
set_option linter.unusedVariables false
set_option linter.unusedSimpArgs false
set_option maxRecDepth 100000

/-- One of three set. -/
def updT (ns : Nat → List Int) (i : Nat) (l : List Int) : Nat → List Int := fun j => if j = i then l else ns j
theorem updT_self (ns : Nat → List Int) (i : Nat) (l : List Int) : updT ns i l i = l := by simp [updT]
theorem updT_ne (ns : Nat → List Int) {i j : Nat} (l : List Int) (h : j ≠ i) : updT ns i l j = ns j := by simp [updT, h]

/-- A list of 256 right numbers. -/
def Ok3 (l : List Int) : Prop := l.length = 256 ∧ ∀ j, j < 256 → 0 ≤ l.getD j 0 ∧ l.getD j 0 ≤ 1048576
theorem Ok3.set {l : List Int} (h : Ok3 l) {t : Nat} {n : Int} (h0 : 0 ≤ n) (h1 : n ≤ 1048576) : Ok3 (l.set t n) := by
  refine ⟨by rw [List.length_set]; exact h.1, fun j hj => ?_⟩
  by_cases hjt : j = t
  · subst hjt
    rw [show (l.set j n).getD j 0 = n by simp [List.getD, h.1, hj]]
    exact ⟨h0, h1⟩
  · rw [show (l.set t n).getD j 0 = l.getD j 0 by simp [List.getD, List.getElem?_set, show ¬ t = j from fun e => hjt e.symm]]
    exact h.2 j hj

/-- The program's clocks: their pointers in block g, their numbers. -/
structure PH (B g : Nat) (w : World) (bs : Nat → Nat) (ns : Nat → List Int) : Prop where
  ptr : w.heap[g]? = some (Obj.cells #[.pointer (some ⟨bs 0, 0, none⟩), .pointer (some ⟨bs 1, 0, none⟩), .pointer (some ⟨bs 2, 0, none⟩)] 23 (0, 0))
  clk : ∃ F, Fam B w F ∧ ∀ i, i < 3 → ∃ k, F (bs i) = some k ∧ ∀ u : Int, at0 k.xs u = at0 (ns i) u
  inj : ∀ i j, i < 3 → j < 3 → bs i = bs j → i = j
  ok : ∀ i, i < 3 → Ok3 (ns i)
/-- The reference's clocks, in block g. -/
structure WH (g : Nat) (w : World) (ns : Nat → List Int) : Prop where
  ty : ∃ cur, w.heap[g]? = some (Obj.cells cur 47 (0, 0))
  rc : ∀ i, i < 3 → RC w g (i * 256) (ns i)

theorem PH.keep {B g : Nat} {w w' : World} {bs : Nat → Nat} {ns : Nat → List Int} (h : PH B g w bs ns) (h1 : KeepT 23 w w') (h2 : KeepT 59 w w') (h3 : KeepT 3 w w') : PH B g w' bs ns := by
  obtain ⟨F, hF, hc⟩ := h.clk
  exact ⟨(h1 _ _ _ h.ptr).trans h.ptr, ⟨F, hF.keep h2 h3, hc⟩, h.inj, h.ok⟩
theorem WH.keep {g : Nat} {w w' : World} {ns : Nat → List Int} (h : WH g w ns) (h1 : KeepT 47 w w') : WH g w' ns := by
  obtain ⟨cur, hc⟩ := h.ty
  have e := h1 _ _ _ hc
  refine ⟨⟨cur, e.trans hc⟩, fun i hi => ⟨(h.rc i hi).1, fun j hj => ?_, fun j => ?_⟩⟩
  · have := (h.rc i hi).2.1 j hj
    simp only [World.cell?] at this ⊢
    rw [e]; exact this
  · have := (h.rc i hi).2.2 j
    simp only [World.frozen?] at this ⊢
    rw [e]; exact this
theorem PH.below {B g : Nat} {w w' : World} {bs : Nat → Nat} {ns : Nat → List Int} (h : PH B g w bs ns) (hB : Below w.heap.size w w') : PH B g w' bs ns := h.keep (keepT_below hB) (keepT_below hB) (keepT_below hB)
theorem WH.below {g : Nat} {w w' : World} {ns : Nat → List Int} (h : WH g w ns) (hB : Below w.heap.size w w') : WH g w' ns := h.keep (keepT_below hB)

/-- What a call of the program's side keeps. -/
def KeepP (B : Nat) (w w' : World) : Prop := (∀ e, e ≠ 59 → e ≠ 3 → KeepT e w w') ∧ ∀ w0 : World, B ≤ w0.heap.size → Below B w0 w → Below B w0 w'
theorem KeepP.refl (B : Nat) (w : World) : KeepP B w w := ⟨fun _ _ _ => KeepT.refl _ _, fun _ _ h => h⟩
theorem keepP_wrote {B : Nat} {w w' : World} {F : Nat → Option Ck} {b : Nat} {k k' : Ck} (h : Fam B w F) (hk : F b = some k) (hw : Wrote w b k k' w') : KeepP B w w' := by
  refine ⟨fun e h1 h2 => keepT_wrote (h.here b k hk) hw h1 h2, fun w0 hle hB => ?_⟩
  refine ⟨hw.2.1.os.trans hB.os, hw.2.1.tape.trans hB.tape, hw.2.1.output.trans hB.output, Nat.le_trans hB.size hw.2.1.size, fun i hi => ?_⟩
  exact (hw.2.1.block i (by have := hB.size; omega) (fun e => by have := Mine.low h hk i e; omega)).trans (hB.block i hi)

/-- A clock of the family written: the three clocks behind it. -/
theorem PH.wrote {B g : Nat} {w w' : World} {bs : Nat → Nat} {ns : Nat → List Int} (h : PH B g w bs ns) {F : Nat → Option Ck} (hF : Fam B w F) (hc : ∀ i, i < 3 → ∃ k, F (bs i) = some k ∧ ∀ u : Int, at0 k.xs u = at0 (ns i) u) {i : Nat} (hi : i < 3) {k k' : Ck} (hk : F (bs i) = some k) (hw : Wrote w (bs i) k k' w') {l : List Int} (hl : ∀ u : Int, at0 k'.xs u = at0 l u) (ho : Ok3 l) : PH B g w' bs (updT ns i l) := by
  have kp := (keepP_wrote hF hk hw).1
  refine ⟨(kp _ (by decide) (by decide) _ _ _ h.ptr).trans h.ptr, ⟨upd F (bs i) k', hF.wrote hk hw, fun j hj => ?_⟩, h.inj, fun j hj => ?_⟩
  · by_cases hji : j = i
    · subst hji
      exact ⟨k', upd_self _ _ _, by rw [updT_self]; exact hl⟩
    · obtain ⟨kj, h1, h2⟩ := hc j hj
      exact ⟨kj, upd_ne (fun e => hji (h.inj j i hj hi e)) h1, by rw [updT_ne _ _ hji]; exact h2⟩
  · by_cases hji : j = i
    · subst hji; rw [updT_self]; exact ho
    · rw [updT_ne _ _ hji]; exact h.ok j hj

theorem updT_same {ns : Nat → List Int} {i : Nat} : updT ns i (ns i) = ns := by
  funext j
  unfold updT
  by_cases h : j = i
  · rw [if_pos h, h]
  · rw [if_neg h]

/-- A cell of the reference's block set: the three clocks behind it. -/
theorem WH.set {g : Nat} {w : World} {ns : Nat → List Int} (h : WH g w ns) {i t : Nat} (hi : i < 3) (ht : t < 256) (n : Int) : WH g (w.setCell ⟨g, i * 256 + t, none⟩ (.int .i64 n)) (updT ns i ((ns i).set t n)) := by
  obtain ⟨cur, hc⟩ := h.ty
  refine ⟨⟨_, heap_setCell_same w g _ _ _ _ hc⟩, fun j hj => ?_⟩
  by_cases hji : j = i
  · subst hji
    rw [updT_self]
    exact (h.rc j hj).set t ht n
  · rw [updT_ne _ _ hji]
    have r := h.rc j hj
    refine ⟨r.1, fun q hq => ?_, fun q => by rw [World.frozen?_setCell]; exact r.2.2 q⟩
    rw [World.cell?_setCell_other _ _ _ _ (by intro e; injection e with e1 e2; omega)]
    exact r.2.1 q hq
/-- What a call of the reference's side keeps. -/
def KeepW (B : Nat) (w w' : World) : Prop := (∀ e, e ≠ 47 → KeepT e w w') ∧ ∀ w0 : World, B ≤ w0.heap.size → Below B w0 w → Below B w0 w'
theorem KeepW.refl (B : Nat) (w : World) : KeepW B w w := ⟨fun _ _ => KeepT.refl _ _, fun _ _ h => h⟩
theorem keepW_set {B g o : Nat} {w : World} {ns : Nat → List Int} {v : Value} (h : WH g w ns) (hg : B ≤ g) : KeepW B w (w.setCell ⟨g, o, none⟩ v) := by
  obtain ⟨cur, hc⟩ := h.ty
  exact ⟨fun e he => keepT_set hc he, fun w0 _ hB => hB.setCell hg _⟩

theorem join_self (b : Nat) (k : Ck) (w : World) (h : CkAt w b k) :
    Calls Try.prog 14 #[.pointer (some ⟨b, 0, none⟩), .pointer (some ⟨b, 0, none⟩)] w fun r w' => r = .returned (.bool false) ∧ w = w' := by
  have e : withinB k.xs k.xs = true := (withinB_iff h.ok).2 fun u => Int.le_refl _
  have E := Lib.hid e
  clear e
  go_enter Try.func14, Try.ntmps14
  go_wp2_with fail
  refine (within_any b b k k w h h).mono ?_
  rintro r w' ⟨rfl, rfl⟩
  rw [E.out]
  go_wp2_with fail
  go_ret
  exact ⟨rfl, rfl⟩

/-! ### Tick -/
def badT (t n least : Int) : Bool := !decide ((0 ≤ t ∧ t < 256) ∧ least ≤ n ∧ n ≤ 1048576)
def tickF (l : List Int) (t n : Int) : Int × List Int := if badT t n 1 then (1, l) else if n ≤ l.getD t.toNat 0 then (5, l) else (0, l.set t.toNat (l.getD t.toNat 0 + 1))
def setF (l : List Int) (t n : Int) : Int × List Int := if badT t n 0 then (1, l) else (0, l.set t.toNat n)

theorem p_tick {B g : Nat} {w : World} {bs : Nat → Nat} {ns : Nat → List Int} (h : PH B g w bs ns) (i : Nat) (hi : i < 3) (t n : Int) :
    Calls Try.prog 23 #[.pointer (some ⟨bs i, 0, none⟩), .int .i64 t, .int .i64 n] w fun r w' => r = .returned (.int .i64 (tickF (ns i) t n).1) ∧ PH B g w' bs (updT ns i (tickF (ns i) t n).2) ∧ KeepP B w w' := by
  by_cases hb : (0 ≤ t ∧ t < 256) ∧ 1 ≤ n ∧ n ≤ 1048576
  · obtain ⟨F, hF, hc⟩ := h.clk
    obtain ⟨k, hk, hka⟩ := hc i hi
    obtain ⟨t', rfl⟩ := Int.eq_ofNat_of_zero_le hb.1.1
    have ht : t' < 256 := by omega
    have hat : at0 k.xs t' = (ns i).getD t' 0 := by rw [hka, at0_nat]
    refine (tick_any (bs i) k t' n w (hF.here _ _ hk) ht hb.2.1 hb.2.2).mono ?_
    rintro r w' (⟨h1, rfl, rfl⟩ | ⟨h1, k', rfl, hw, hat'⟩)
    · have e : tickF (ns i) t' n = (5, ns i) := by
        unfold tickF badT
        rw [decide_eq_true hb, Int.toNat_natCast]
        rw [hat] at h1
        rw [if_neg (by simp), if_pos h1]
      rw [e]
      exact ⟨rfl, by rw [updT_same]; exact h, KeepP.refl _ _⟩
    · rw [hat] at h1
      have e : tickF (ns i) t' n = (0, (ns i).set t' ((ns i).getD t' 0 + 1)) := by
        unfold tickF badT
        rw [decide_eq_true hb, Int.toNat_natCast]
        rw [if_neg (by simp), if_neg (by omega)]
      rw [e]
      have hl := (h.ok i hi).1
      have hb2 := (h.ok i hi).2 t' ht
      refine ⟨rfl, h.wrote hF hc hi hk hw (fun u => ?_) ((h.ok i hi).set (by omega) (by omega)), keepP_wrote hF hk hw⟩
      rw [hat' u, at0_set _ _ _ _ (by omega), hat, hka]
  · refine (tick_no _ t n w hb).mono ?_
    rintro r w' ⟨rfl, rfl⟩
    have e : tickF (ns i) t n = (1, ns i) := by
      unfold tickF badT
      rw [decide_eq_false hb]
      rfl
    rw [e]
    exact ⟨rfl, by rw [updT_same]; exact h, KeepP.refl _ _⟩

theorem w_tick {B g : Nat} {w : World} {ns : Nat → List Int} (h : WH g w ns) (hg : B ≤ g) (i : Nat) (hi : i < 3) (t n : Int) (ho : Ok3 (ns i)) :
    Calls Try.prog 24 #[.pointer (some ⟨g, i * 256, none⟩), .int .i64 t, .int .i64 n] w fun r w' => r = .returned (.int .i64 (tickF (ns i) t n).1) ∧ WH g w' (updT ns i (tickF (ns i) t n).2) ∧ KeepW B w w' := by
  by_cases hb : (0 ≤ t ∧ t < 256) ∧ 1 ≤ n ∧ n ≤ 1048576
  · obtain ⟨t', rfl⟩ := Int.eq_ofNat_of_zero_le hb.1.1
    have ht : t' < 256 := by omega
    have hb2 := ho.2 t' ht
    refine (rc_tick g (i * 256) (ns i) t' n w (h.rc i hi) ht hb.2.1 hb.2.2 (by omega)).mono ?_
    rintro r w' (⟨h1, rfl, rfl⟩ | ⟨h1, rfl, rfl⟩)
    · have e : tickF (ns i) t' n = (5, ns i) := by
        unfold tickF badT
        rw [decide_eq_true hb, Int.toNat_natCast]
        rw [if_neg (by simp), if_pos h1]
      rw [e]
      exact ⟨rfl, by rw [updT_same]; exact h, KeepW.refl _ _⟩
    · have e : tickF (ns i) t' n = (0, (ns i).set t' ((ns i).getD t' 0 + 1)) := by
        unfold tickF badT
        rw [decide_eq_true hb, Int.toNat_natCast]
        rw [if_neg (by simp), if_neg (by omega)]
      rw [e]
      have k1 := keepW_set (B := B) (o := i * 256 + t') (v := .int .i64 ((ns i).getD t' 0 + 1)) h hg
      exact ⟨rfl, (h.set hi ht _).below (Below.refl _ _).drew, ⟨fun e he => (k1.1 e he).trans (fun _ _ _ _ => rfl), fun w0 hle hB => (k1.2 w0 hle hB).drew⟩⟩
  · refine (rc_tick_no _ t n w hb).mono ?_
    rintro r w' ⟨rfl, rfl⟩
    have e : tickF (ns i) t n = (1, ns i) := by
      unfold tickF badT
      rw [decide_eq_false hb]
      rfl
    rw [e]
    exact ⟨rfl, by rw [updT_same]; exact h, KeepW.refl _ _⟩

/-! ### Set -/
theorem p_set {B g : Nat} {w : World} {bs : Nat → Nat} {ns : Nat → List Int} (h : PH B g w bs ns) (i : Nat) (hi : i < 3) (t n : Int) :
    Calls Try.prog 25 #[.pointer (some ⟨bs i, 0, none⟩), .int .i64 t, .int .i64 n] w fun r w' => r = .returned (.int .i64 (setF (ns i) t n).1) ∧ PH B g w' bs (updT ns i (setF (ns i) t n).2) ∧ KeepP B w w' := by
  by_cases hb : (0 ≤ t ∧ t < 256) ∧ 0 ≤ n ∧ n ≤ 1048576
  · obtain ⟨F, hF, hc⟩ := h.clk
    obtain ⟨k, hk, hka⟩ := hc i hi
    obtain ⟨t', rfl⟩ := Int.eq_ofNat_of_zero_le hb.1.1
    have ht : t' < 256 := by omega
    refine (set_yes (bs i) k t' n w (hF.here _ _ hk) ht hb.2.1 hb.2.2).mono ?_
    rintro r w' ⟨k', rfl, hw, hat'⟩
    have e : setF (ns i) t' n = (0, (ns i).set t' n) := by
      unfold setF badT
      rw [decide_eq_true hb, Int.toNat_natCast]
      rw [if_neg (by simp)]
    rw [e]
    have hl := (h.ok i hi).1
    refine ⟨rfl, h.wrote hF hc hi hk hw (fun u => ?_) ((h.ok i hi).set hb.2.1 hb.2.2), keepP_wrote hF hk hw⟩
    rw [hat' u, at0_set _ _ _ _ (by omega), hka]
  · refine (set_no _ t n w hb).mono ?_
    rintro r w' ⟨rfl, rfl⟩
    have e : setF (ns i) t n = (1, ns i) := by
      unfold setF badT
      rw [decide_eq_false hb]
      rfl
    rw [e]
    exact ⟨rfl, by rw [updT_same]; exact h, KeepP.refl _ _⟩
theorem w_set {B g : Nat} {w : World} {ns : Nat → List Int} (h : WH g w ns) (hg : B ≤ g) (i : Nat) (hi : i < 3) (t n : Int) :
    Calls Try.prog 26 #[.pointer (some ⟨g, i * 256, none⟩), .int .i64 t, .int .i64 n] w fun r w' => r = .returned (.int .i64 (setF (ns i) t n).1) ∧ WH g w' (updT ns i (setF (ns i) t n).2) ∧ KeepW B w w' := by
  by_cases hb : (0 ≤ t ∧ t < 256) ∧ 0 ≤ n ∧ n ≤ 1048576
  · obtain ⟨t', rfl⟩ := Int.eq_ofNat_of_zero_le hb.1.1
    have ht : t' < 256 := by omega
    refine (rc_set g (i * 256) (ns i) t' n w (h.rc i hi) ht hb.2.1 hb.2.2).mono ?_
    rintro r w' ⟨rfl, rfl⟩
    have e : setF (ns i) t' n = (0, (ns i).set t' n) := by
      unfold setF badT
      rw [decide_eq_true hb, Int.toNat_natCast]
      rw [if_neg (by simp)]
    rw [e]
    exact ⟨rfl, h.set hi ht _, keepW_set h hg⟩
  · refine (rc_set_no _ t n w hb).mono ?_
    rintro r w' ⟨rfl, rfl⟩
    have e : setF (ns i) t n = (1, ns i) := by
      unfold setF badT
      rw [decide_eq_false hb]
      rfl
    rw [e]
    exact ⟨rfl, by rw [updT_same]; exact h, KeepW.refl _ _⟩

/-! ### Join -/
def maxL (xs ys : List Int) : List Int := (List.range 256).map fun j => max (xs.getD j 0) (ys.getD j 0)
theorem maxL_len (xs ys : List Int) : (maxL xs ys).length = 256 := by simp [maxL]
theorem maxL_at (xs ys : List Int) (j : Nat) (hj : j < 256) : (maxL xs ys).getD j 0 = max (xs.getD j 0) (ys.getD j 0) := by simp [maxL, List.getD, hj]
theorem maxL_ok {xs ys : List Int} (hx : Ok3 xs) (hy : Ok3 ys) : Ok3 (maxL xs ys) := by
  refine ⟨maxL_len _ _, fun j hj => ?_⟩
  rw [maxL_at _ _ _ hj]
  have := hx.2 j hj
  have := hy.2 j hj
  omega
theorem at0_maxL {xs ys : List Int} (hx : Ok3 xs) (hy : Ok3 ys) (u : Int) : at0 (maxL xs ys) u = max (at0 xs u) (at0 ys u) := by
  by_cases hu : 0 ≤ u ∧ u < 256
  · obtain ⟨j, rfl⟩ := Int.eq_ofNat_of_zero_le hu.1
    rw [at0_nat, at0_nat, at0_nat, maxL_at _ _ _ (by omega)]
  · rw [at0_out (by rw [maxL_len]; omega), at0_out (l := xs) (by rw [hx.1]; omega), at0_out (l := ys) (by rw [hy.1]; omega)]
    rfl
theorem ext3 {xs ys : List Int} (hx : xs.length = 256) (hy : ys.length = 256) (h : ∀ j, j < 256 → xs.getD j 0 = ys.getD j 0) : xs = ys := by
  apply List.ext_getElem (by rw [hx, hy])
  intro j h1 h2
  have := h j (by omega)
  simpa [List.getD, h1, h2] using this
theorem leB_at {xs ys : List Int} (hx : Ok3 xs) (hy : Ok3 ys) : leB ys xs = true ↔ ∀ u : Int, at0 ys u ≤ at0 xs u := by
  unfold leB
  rw [decide_eq_true_iff]
  constructor
  · intro h u
    by_cases hu : 0 ≤ u ∧ u < 256
    · obtain ⟨j, rfl⟩ := Int.eq_ofNat_of_zero_le hu.1
      rw [at0_nat, at0_nat]
      exact h j (by omega)
    · rw [at0_out (l := ys) (by rw [hy.1]; omega), at0_out (l := xs) (by rw [hx.1]; omega)]
      exact Int.le_refl _
  · intro h j hj
    have := h j
    rwa [at0_nat, at0_nat] at this
theorem maxL_of_le {xs ys : List Int} (hx : Ok3 xs) (h : leB ys xs = true) : maxL xs ys = xs := by
  have h := of_decide_eq_true h
  refine ext3 (maxL_len _ _) hx.1 fun j hj => ?_
  rw [maxL_at _ _ _ hj]
  have := h j hj
  omega

theorem p_join {B g : Nat} {w : World} {bs : Nat → Nat} {ns : Nat → List Int} (h : PH B g w bs ns) (i k : Nat) (hi : i < 3) (hk3 : k < 3) :
    Calls Try.prog 14 #[.pointer (some ⟨bs i, 0, none⟩), .pointer (some ⟨bs k, 0, none⟩)] w fun r w' => r = .returned (.bool (!leB (ns k) (ns i))) ∧ PH B g w' bs (updT ns i (maxL (ns i) (ns k))) ∧ KeepP B w w' := by
  obtain ⟨F, hF, hc⟩ := h.clk
  obtain ⟨ki, hki, hkia⟩ := hc i hi
  obtain ⟨kk, hkk, hkka⟩ := hc k hk3
  have hw1 : withinB kk.xs ki.xs = leB (ns k) (ns i) := by
    have a := withinB_iff (xs := kk.xs) (hF.here _ _ hki).ok
    have b := leB_at (h.ok i hi) (h.ok k hk3)
    cases h1 : withinB kk.xs ki.xs with
    | true => exact (b.2 (fun u => by rw [← hkia, ← hkka]; exact a.1 h1 u)).symm
    | false =>
      cases h2 : leB (ns k) (ns i) with
      | false => rfl
      | true =>
        have := a.2 (fun u => by rw [hkia, hkka]; exact b.1 h2 u)
        rw [h1] at this; cases this
  by_cases hik : i = k
  · subst hik
    have hle : leB (ns i) (ns i) = true := decide_eq_true (fun j _ => Int.le_refl _)
    refine (join_self (bs i) ki w (hF.here _ _ hki)).mono ?_
    rintro r w' ⟨rfl, rfl⟩
    exact ⟨by rw [hle]; rfl, by rw [maxL_of_le (h.ok i hi) hle, updT_same]; exact h, KeepP.refl _ _⟩
  · have hne : bs i ≠ bs k := fun e => hik (h.inj i k hi hk3 e)
    have hap : ki.sh = false → 0 < ki.xs.length → 0 < kk.xs.length → ki.arr ≠ kk.arr := fun hs hp hp' ea => by
      have := (hF.apart _ _ ki kk hki hkk hne hp hp' ea).1
      rw [hs] at this
      cases this
    refine (join_any (bs i) (bs k) ki kk w (hF.here _ _ hki) (hF.here _ _ hkk) hap hne).mono ?_
    rintro r w' (⟨hw, rfl, rfl⟩ | ⟨hw, rfl, k', hwr, hmx⟩)
    · rw [hw1] at hw
      exact ⟨by rw [hw]; rfl, by rw [maxL_of_le (h.ok i hi) hw, updT_same]; exact h, KeepP.refl _ _⟩
    · rw [hw1] at hw
      exact ⟨by rw [hw]; rfl, h.wrote hF hc hi hki hwr (fun u => by rw [hmx u, at0_maxL (h.ok i hi) (h.ok k hk3), hkia, hkka]) (maxL_ok (h.ok i hi) (h.ok k hk3)), keepP_wrote hF hki hwr⟩

theorem w_join {B g : Nat} {w : World} {ns : Nat → List Int} (h : WH g w ns) (hg : B ≤ g) (hgl : B ≤ w.heap.size) (i k : Nat) (hi : i < 3) (hx : Ok3 (ns i)) (hy : Ok3 (ns k)) (Y : Array Value) (hY : (ints (ns k)).toArray = Y) :
    Calls Try.prog 27 #[.pointer (some ⟨g, i * 256, none⟩), .agg Y] w fun r w' => r = .returned (.bool (!leB (ns k) (ns i))) ∧ WH g w' (updT ns i (maxL (ns i) (ns k))) ∧ KeepW B w w' := by
  refine (rc_join g (i * 256) (ns i) (ns k) Y hY hy.1 w (h.rc i hi)).mono ?_
  rintro r w' ⟨zs, rfl, hz, hzm, ho⟩
  have hzz : zs = maxL (ns i) (ns k) := ext3 hz.1 (maxL_len _ _) fun j hj => by rw [hzm j hj, maxL_at _ _ _ hj]
  subst hzz
  obtain ⟨cur, hc⟩ := h.ty
  obtain ⟨cur', hc', hsz, hsame⟩ := ho.here cur _ hc
  refine ⟨rfl, ⟨⟨cur', hc'⟩, fun j hj => ?_⟩, ⟨fun e he q c fz hq => ?_, fun w0 hle hB => ?_⟩⟩
  · by_cases hji : j = i
    · subst hji; rw [updT_self]; exact hz
    · rw [updT_ne _ _ hji]
      have r := h.rc j hj
      refine ⟨r.1, fun q hq => ?_, fun q => by simp [World.frozen?, hc']⟩
      have e := r.2.1 q hq
      simp only [World.cell?, hc] at e
      simp only [World.cell?, hc']
      have e2 := hsame (j * 256 + q) (by omega)
      first | (rw [e2]; exact e) | (simpa [e2] using e)
  · refine ho.block q (lt_of_heap hq) ?_
    rintro rfl
    rw [hc] at hq
    have := Option.some.inj hq
    injection this with e1 e2
    exact he e2.symm
  · refine ⟨ho.os.trans hB.os, ho.tape.trans hB.tape, ho.output.trans hB.output, Nat.le_trans hB.size ho.size, fun q hq => ?_⟩
    exact (ho.block q (by have := hB.size; omega) (by omega)).trans (hB.block q hq)

end Go.Proofs.Ytgomeofifaejfaa

