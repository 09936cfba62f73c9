
/-
  A family of clocks: which may have one another's numbers; what a walk carries along: the family, and that nothing older than the walk has turned.
-/
import Derived.Test.YtlkfhobacgnckaaClkI
namespace Go.Proofs.Ytlkfhobacgnckaa
open Go.RowKit
set_option linter.unusedVariables false
set_option linter.unusedSimpArgs false
set_option maxRecDepth 100000

def upd (F : Nat → Option Ck) (b : Nat) (k : Ck) : Nat → Option Ck := fun i => if i = b then some k else F i
theorem upd_self (F : Nat → Option Ck) (b : Nat) (k : Ck) : upd F b k b = some k := by simp [upd]
theorem upd_ne {F : Nat → Option Ck} {b b' : Nat} {k : Ck} {o : Option Ck} (h : b' ≠ b) (hF : F b' = o) : upd F b k b' = o := by simp [upd, h, hF]

structure Fam (B : Nat) (w : World) (F : Nat → Option Ck) : Prop where
  here : ∀ b k, F b = some k → CkAt w b k
  apart : ∀ b b' k k', F b = some k → F b' = some k' → b ≠ b' → 0 < k.xs.length → 0 < k'.xs.length → k.arr = k'.arr → k.sh = true ∧ k'.sh = true
  low : ∀ b k, F b = some k → B ≤ b ∧ (0 < k.xs.length → B ≤ k.arr)

theorem Fam.none (B : Nat) (w : World) : Fam B w (fun _ => none) := ⟨fun _ _ h => by simp at h, fun _ _ _ _ h => by simp at h, fun _ _ h => by simp at h⟩
theorem Fam.below {B : Nat} {w w' : World} {F : Nat → Option Ck} (h : Fam B w F) (hb : Below w.heap.size w w') : Fam B w' F :=
  ⟨fun b k e => (h.here b k e).below hb, h.apart, h.low⟩

theorem Fam.wrote {B : Nat} {w w' : World} {F : Nat → Option Ck} {b : Nat} {k k1 : Ck} (h : Fam B w F) (hF : F b = some k) (hw : Wrote w b k k1 w') : Fam B w' (upd F b k1) := by
  obtain ⟨hk, htu, hor⟩ := hw
  have hc := h.here b k hF
  have hlt := hc.lt
  have hlo := h.low b k hF
  have other : ∀ b' k', b' ≠ b → F b' = some k' → CkAt w' b' k' := fun b' k' hne e => by
    have hc' := h.here b' k' e
    refine hc'.frame fun i hi hh => htu.block i hi ?_
    rintro (rfl | ⟨hs, hp, rfl⟩)
    · rcases hh with rfl | ⟨hp', rfl⟩
      · exact hne rfl
      · exact (hc.ne hc' hp') rfl
    · rcases hh with rfl | ⟨hp', e2⟩
      · exact (hc'.ne hc hp) rfl
      · have := (h.apart b b' k k' hF e hne.symm hp hp' e2).1
        rw [hs] at this
        cases this
  have new : ∀ b' k', b' ≠ b → F b' = some k' → 0 < k1.xs.length → 0 < k'.xs.length → k1.arr = k'.arr → k1.sh = true ∧ k'.sh = true := fun b' k' hne e hp hp' ea => by
    rcases hor with ⟨e1, e2, e3⟩ | ⟨hge, _⟩
    · have := h.apart b b' k k' hF e hne.symm (by omega) hp' (by rw [← e1, ea])
      rw [e2]; exact this
    · have := (h.here b' k' e).arr_lt hp'
      omega
  refine ⟨fun b' k' e => ?_, fun b' b'' k' k'' e e2 hne hp hp' ea => ?_, fun b' k' e => ?_⟩
  · by_cases hb : b' = b
    · subst hb; rw [upd_self] at e; cases e; exact hk
    · simp [upd, hb] at e; exact other b' k' hb e
  · by_cases hb : b' = b
    · subst hb
      rw [upd_self] at e
      cases e
      have hb2 : b'' ≠ b' := fun e => hne e.symm
      simp [upd, hb2] at e2
      exact new b'' k'' hb2 e2 hp hp' ea
    · simp [upd, hb] at e
      by_cases hb2 : b'' = b
      · subst hb2
        rw [upd_self] at e2
        cases e2
        exact (new b' k' hb e hp' hp ea.symm).symm
      · simp [upd, hb2] at e2
        exact h.apart b' b'' k' k'' e e2 hne hp hp' ea
  · by_cases hb : b' = b
    · subst hb
      rw [upd_self] at e
      cases e
      refine ⟨hlo.1, fun hp => ?_⟩
      rcases hor with ⟨e1, e2, e3⟩ | ⟨hge, _⟩
      · rw [e1]; exact hlo.2 (by omega)
      · omega
    · simp [upd, hb] at e
      exact h.low b' k' e

theorem Mine.low {B : Nat} {w : World} {F : Nat → Option Ck} {b : Nat} {k : Ck} (h : Fam B w F) (hF : F b = some k) : ∀ i, Mine b k i → B ≤ i := by
  rintro i (rfl | ⟨_, hp, rfl⟩)
  · exact (h.low _ k hF).1
  · exact (h.low b k hF).2 hp

/-- A new clock beside the family. -/
theorem Fam.new {B : Nat} {w : World} {F : Nat → Option Ck} {b : Nat} {k : Ck} (h : Fam B w F) (hk : CkAt w b k) (hb : B ≤ b) (ha : 0 < k.xs.length → B ≤ k.arr) (hn : ∀ b' k', F b' = some k' → b' ≠ b ∧ (0 < k.xs.length → 0 < k'.xs.length → k.arr = k'.arr → k.sh = true ∧ k'.sh = true)) : Fam B w (upd F b k) := by
  refine ⟨fun b' k' e => ?_, fun b' b'' k' k'' e e2 hne hp hp' ea => ?_, fun b' k' e => ?_⟩
  · by_cases hb : b' = b
    · subst hb; rw [upd_self] at e; cases e; exact hk
    · simp [upd, hb] at e; exact h.here b' k' e
  · by_cases hb : b' = b
    · subst hb
      rw [upd_self] at e
      cases e
      have hb2 : b'' ≠ b' := fun e => hne e.symm
      simp [upd, hb2] at e2
      exact (hn b'' k'' e2).2 hp hp' ea
    · simp [upd, hb] at e
      by_cases hb2 : b'' = b
      · subst hb2
        rw [upd_self] at e2
        cases e2
        exact ((hn b' k' e).2 hp' hp ea.symm).symm
      · simp [upd, hb2] at e2
        exact h.apart b' b'' k' k'' e e2 hne hp hp' ea
  · by_cases hb : b' = b
    · subst hb
      rw [upd_self] at e
      cases e
      exact ⟨by assumption, ha⟩
    · simp [upd, hb] at e
      exact h.low b' k' e

/-- What a walk carries. -/
structure St (w0 w : World) (F : Nat → Option Ck) : Prop where
  fam : Fam w0.heap.size w F
  bel : Below w0.heap.size w0 w
theorem St.start (w : World) : St w w (fun _ => none) := ⟨Fam.none _ _, Below.refl _ _⟩
theorem St.below {w0 w w' : World} {F : Nat → Option Ck} (h : St w0 w F) (hb : Below w.heap.size w w') : St w0 w' F := ⟨h.fam.below hb, below_trans h.bel hb h.bel.size⟩
theorem St.ok {w0 w : World} {F : Nat → Option Ck} {b : Nat} {k : Ck} (h : St w0 w F) (hF : F b = some k) : OkL k.xs := (h.fam.here b k hF).ok

/-- What is kept of the others when clock b is written, or made. -/
def Rest (F F' : Nat → Option Ck) (b : Nat) : Prop := ∀ b' k', b' ≠ b → F b' = some k' → F' b' = some k'
def New (F : Nat → Option Ck) (b : Nat) : Prop := ∀ b' k', F b' = some k' → b' ≠ b

def StOf (w0 : World) (F : Nat → Option Ck) (l : List Int) (w : World) (r : Ending) (w' : World) : Prop :=
  ∃ b k F', r = .returned (.tuple #[.pointer (some ⟨b, 0, none⟩), .int .i64 0]) ∧ k.xs = l ∧ St w0 w' F' ∧ F' b = some k ∧ New F b ∧ Rest F F' b ∧ Below w.heap.size w w'
theorem st_of {w0 w : World} {F : Nat → Option Ck} (h : St w0 w F) (v : Value) (l : List Int) (hs : Src w v l) (h0 : ofE l = 0) :
    Calls Try.prog 10 #[v] w (StOf w0 F l w) := by
  refine (of_yes v l w hs h0).mono ?_
  rintro r w' ⟨b, g, rfl, hk, hB, hg, hb⟩
  have hnew : New F b := fun b' k' e => by have := (h.fam.here b' k' e).lt; omega
  refine ⟨b, _, upd F b ⟨g, l, false⟩, rfl, rfl, ⟨(h.fam.below hB).new hk (Nat.le_trans h.bel.size hb) (fun _ => Nat.le_trans h.bel.size hg) fun b' k' e => ⟨hnew b' k' e, fun _ hp ea => ?_⟩, below_trans h.bel hB h.bel.size⟩, upd_self _ _ _, hnew, fun b' k' hne e => upd_ne hne e, hB⟩
  have h1 := (h.fam.here b' k' e).arr_lt hp
  have h2 : g = k'.arr := ea
  omega

def StCopy (w0 : World) (F : Nat → Option Ck) (b : Nat) (k : Ck) (r : Ending) (w' : World) : Prop :=
  ∃ b' ks kn F', r = .returned (.pointer (some ⟨b', 0, none⟩)) ∧ St w0 w' F' ∧ F' b = some ks ∧ ks.xs = k.xs ∧ F' b' = some kn ∧ kn.xs = k.xs ∧ New F b' ∧ Rest F F' b
theorem st_copy {w0 w : World} {F : Nat → Option Ck} (h : St w0 w F) (b : Nat) (k : Ck) (hF : F b = some k) :
    Calls Try.prog 35 #[.pointer (some ⟨b, 0, none⟩)] w (StCopy w0 F b k) := by
  refine (copy_any b k w (h.fam.here b k hF)).mono ?_
  rintro r w' ⟨b', hb', rfl, hn, hs, htu⟩
  have hc := h.fam.here b k hF
  have hlt := hc.lt
  have hlo := h.fam.low b k hF
  have hnew : New F b' := fun b2 k2 e => by have := (h.fam.here b2 k2 e).lt; omega
  have hne : b ≠ b' := hnew b k hF
  -- the marked clock
  have f1 : Fam w0.heap.size w' (upd F b ⟨k.arr, k.xs, true⟩) := by
    refine ⟨fun b2 k2 e => ?_, fun b2 b3 k2 k3 e e2 hnx hp hp' ea => ?_, fun b2 k2 e => ?_⟩
    · by_cases hb : b2 = b
      · subst hb; rw [upd_self] at e; cases e; exact hs
      · simp [upd, hb] at e
        have hc2 := h.fam.here b2 k2 e
        exact hc2.frame fun i hi hh => htu.block i hi (by
          rintro rfl
          rcases hh with rfl | ⟨hp, rfl⟩
          · exact hb rfl
          · exact (hc.ne hc2 hp) rfl)
    · by_cases hb : b2 = b
      · subst hb
        rw [upd_self] at e
        cases e
        have hb2 : b3 ≠ b2 := fun e => hnx e.symm
        simp [upd, hb2] at e2
        exact ⟨rfl, (h.fam.apart b2 b3 k k3 hF e2 hnx hp hp' ea).2⟩
      · simp [upd, hb] at e
        by_cases hb2 : b3 = b
        · subst hb2
          rw [upd_self] at e2
          cases e2
          exact ⟨(h.fam.apart b2 b3 k2 k e hF hnx hp hp' ea).1, rfl⟩
        · simp [upd, hb2] at e2
          exact h.fam.apart b2 b3 k2 k3 e e2 hnx hp hp' ea
    · by_cases hb : b2 = b
      · subst hb
        rw [upd_self] at e
        cases e
        exact hlo
      · simp [upd, hb] at e
        exact h.fam.low b2 k2 e
  have f2 : Fam w0.heap.size w' (upd (upd F b ⟨k.arr, k.xs, true⟩) b' ⟨k.arr, k.xs, true⟩) := by
    refine f1.new hn (Nat.le_trans h.bel.size hb') hlo.2 fun b2 k2 e => ?_
    by_cases hb : b2 = b
    · subst hb
      rw [upd_self] at e
      cases e
      exact ⟨hne, fun _ _ _ => ⟨rfl, rfl⟩⟩
    · simp [upd, hb] at e
      exact ⟨hnew b2 k2 e, fun hp hp' ea => ⟨rfl, (h.fam.apart b b2 k k2 hF e (fun e => hb e.symm) hp hp' ea).2⟩⟩
  exact ⟨b', _, _, _, rfl, ⟨f2, htu.below h.bel (Nat.le_refl _) (fun i e => by rw [e]; exact hlo.1)⟩, upd_ne hne (upd_self _ _ _), rfl, upd_self _ _ _, rfl, hnew, fun b2 k2 hb e => upd_ne (hnew b2 k2 e) (upd_ne hb e)⟩

def StJoin (w0 : World) (F : Nat → Option Ck) (b : Nat) (k ko : Ck) (r : Ending) (w' : World) : Prop :=
  ∃ k' F', r = .returned (.bool (!withinB ko.xs k.xs)) ∧ St w0 w' F' ∧ F' b = some k' ∧ (∀ u, at0 k'.xs u = max (at0 k.xs u) (at0 ko.xs u)) ∧ Rest F F' b
def StList (w0 : World) (F : Nat → Option Ck) (k : Ck) (w : World) (r : Ending) (w' : World) : Prop :=
  ∃ v, r = .returned v ∧ Src w' v (trim k.xs) ∧ St w0 w' F ∧ Below w.heap.size w w'
theorem st_list {w0 w : World} {F : Nat → Option Ck} (h : St w0 w F) (b : Nat) (k : Ck) (hF : F b = some k) :
    Calls Try.prog 20 #[.pointer (some ⟨b, 0, none⟩)] w (StList w0 F k w) := by
  refine (list_any b k w (h.fam.here b k hF)).mono ?_
  rintro r w' ⟨v, rfl, ho, hB⟩
  exact ⟨v, rfl, Src.of_owns ho, h.below hB, hB⟩

def StInts (w0 : World) (F : Nat → Option Ck) (x : Bool) (w : World) (r : Ending) (w' : World) : Prop := r = .returned (.bool x) ∧ St w0 w' F ∧ Below w.heap.size w w'
theorem st_ints {w0 w : World} {F : Nat → Option Ck} (h : St w0 w F) (v1 v2 : Value) (xs ys : List Int) (h1 : Src w v1 xs) (h2 : Src w v2 ys) (hx : xs.length ≤ 140737488351232) (hy : ys.length ≤ 140737488351232) (x : Bool) (hd : decide (xs = ys) = x) :
    Calls Try.prog 19 #[v1, v2] w (StInts w0 F x w) := by
  refine (ints_any v1 v2 xs ys w h1 h2 hx hy).mono ?_
  rintro r w' ⟨rfl, n, rfl⟩
  have hB : Below w.heap.size w (w.drewN n) := below_drewN (Below.refl _ _) n
  exact ⟨by rw [hd], h.below hB, hB⟩
theorem trim_small {xs : List Int} (h : OkL xs) : (trim xs).length ≤ 140737488351232 := Nat.le_trans (length_trim_le xs) (Nat.le_trans h.1 (by decide))

end Go.Proofs.Ytlkfhobacgnckaa

