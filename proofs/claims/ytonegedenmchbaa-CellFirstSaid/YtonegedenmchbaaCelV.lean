
/-
  CellFirst, plain: vector clocks; the accesses that are kept cover all that were done.
-/
import Derived.Test.YtonegedenmchbaaCelP
namespace Go.Proofs.Ytonegedenmchbaa
open Go.RowKit
set_option linter.unusedVariables false
set_option linter.unusedSimpArgs false
set_option maxRecDepth 100000

/-- An access that was done: of whom, at which of its clocks, whether it wrote, what its goroutine knew. -/
structure Ac where
  g : Nat
  n : Int
  wr : Bool
  V : Nat → Int
def Kn (C : Nat → Nat → Int) (d : Ac) (g : Nat) : Prop := d.g = g ∨ d.n ≤ C g d.g
/-- The clocks, and what was done. -/
structure Vc (C : Nat → Nat → Int) (D : List Ac) (M : Int) : Prop where
  S : ∀ g h, g < 4 → h < 4 → g ≠ h → C g h < C h h
  one : ∀ g, g < 4 → 1 ≤ C g g
  bd : ∀ g t, g < 4 → 0 ≤ C g t ∧ C g t ≤ M
  lo : ∀ d, d ∈ D → d.g < 4 ∧ 1 ≤ d.n ∧ d.n ≤ M ∧ d.n = d.V d.g
  K : ∀ d, d ∈ D → ∀ g, g < 4 → Kn C d g → ∀ t, d.V t ≤ C g t
/-- The cell covers them. -/
structure Cv (x : Int) (l : List Int) (D : List Ac) : Prop where
  w : (x = 0 ∧ ∀ d, d ∈ D → d.wr = false) ∨ ∃ k, k ∈ D ∧ x = ep k.g k.n ∧ k.wr = true ∧ ∀ d, d ∈ D → d.wr = true → ∀ t, d.V t ≤ k.V t
  r : ∀ y, y ∈ l → ∃ k, k ∈ D ∧ y = ep k.g k.n
  c : ∀ d, d ∈ D → (∃ k, k ∈ D ∧ x = ep k.g k.n ∧ ∀ t, d.V t ≤ k.V t) ∨ ∃ k, k ∈ D ∧ ep k.g k.n ∈ l ∧ ∀ t, d.V t ≤ k.V t
theorem vc_ok {C : Nat → Nat → Int} {D : List Ac} {M : Int} (h : Vc C D M) (hM : M ≤ 1048576) {d : Ac} (hd : d ∈ D) : okTN d.g d.n := by
  obtain ⟨h1, h2, h3, _⟩ := h.lo d hd
  exact ⟨by omega, by omega, h2, by omega⟩
theorem known_kn {C : Nat → Nat → Int} {D : List Ac} {M : Int} (h : Vc C D M) (hM : M ≤ 1048576) {d : Ac} (hd : d ∈ D) {G : Nat} (hG : G < 4) {e : Int} (he : tidE e = G) {f : Int → Int} (hf : ∀ t : Nat, f t = C G t) : knownB (ep d.g d.n) e f = true ↔ Kn C d G := by
  rw [known_ep (vc_ok h hM hd), he, hf]
  unfold Kn
  simp
  omega
/-- Known of one that covers, known of what is covered. -/
theorem kn_cov {C : Nat → Nat → Int} {D : List Ac} {M : Int} (h : Vc C D M) {d k : Ac} (hd : d ∈ D) (hk : k ∈ D) (hc : ∀ t, d.V t ≤ k.V t) {G : Nat} (hG : G < 4) (hK : Kn C k G) : Kn C d G := by
  right
  have h1 := h.K k hk G hG hK d.g
  have h2 := hc d.g
  have h3 := (h.lo d hd).2.2.2
  omega
def Race (C : Nat → Nat → Int) (D : List Ac) (G : Nat) (wr : Bool) : Prop := ∃ d, d ∈ D ∧ (d.wr = true ∨ wr = true) ∧ ¬ Kn C d G
theorem race_read {C : Nat → Nat → Int} {D : List Ac} {M : Int} {x : Int} {l : List Int} (h : Vc C D M) (hM : M ≤ 1048576) (hc : Cv x l D) {G : Nat} (hG : G < 4) {e : Int} (he : tidE e = G) {f : Int → Int} (hf : ∀ t : Nat, f t = C G t) :
    knownB x e f = false ↔ Race C D G false := by
  constructor
  · intro hk
    rcases hc.w with ⟨rfl, _⟩ | ⟨k, h1, h2, h3, _⟩
    · rw [show knownB 0 e f = true by simp [knownB]] at hk; cases hk
    · refine ⟨k, h1, .inl h3, fun hh => ?_⟩
      rw [h2, (known_kn h hM h1 hG he hf).2 hh] at hk
      cases hk
  · rintro ⟨d, hd, hw, hn⟩
    have hw' : d.wr = true := by simpa using hw
    rcases hc.w with ⟨rfl, h0⟩ | ⟨k, h1, h2, h3, h4⟩
    · rw [h0 d hd] at hw'; cases hw'
    · cases hk : knownB x e f with
      | false => rfl
      | true =>
        rw [h2] at hk
        exact absurd (kn_cov h hd h1 (h4 d hd hw') hG ((known_kn h hM h1 hG he hf).1 hk)) hn
theorem race_write {C : Nat → Nat → Int} {D : List Ac} {M : Int} {x : Int} {l : List Int} (h : Vc C D M) (hM : M ≤ 1048576) (hc : Cv x l D) {G : Nat} (hG : G < 4) {e : Int} (he : tidE e = G) {f : Int → Int} (hf : ∀ t : Nat, f t = C G t) :
    writeV x l false e f ≠ 0 ↔ Race C D G true := by
  have key : writeV x l false e f ≠ 0 ↔ (knownB x e f = false ∨ ∃ y, y ∈ l ∧ knownB y e f = false) := by
    unfold writeV
    cases hk : knownB x e f with
    | false => simp
    | true =>
      by_cases ha : l.any (fun y => !knownB y e f) = true
      · have h2 := List.any_eq_true.1 ha
        obtain ⟨y, hy, hky⟩ := h2
        have : knownB y e f = false := by simpa using hky
        rw [if_pos rfl, if_pos (by rw [ha]; rfl)]
        exact ⟨fun _ => .inr ⟨y, hy, this⟩, fun _ => by decide⟩
      · have ha' : l.any (fun y => !knownB y e f) = false := by simpa using ha
        rw [if_pos rfl, if_neg (by rw [ha']; decide)]
        constructor
        · intro h0; exact absurd rfl h0
        · rintro (h0 | ⟨y, hy, hky⟩)
          · cases h0
          · exact absurd (List.any_eq_true.2 ⟨y, hy, by rw [hky]; rfl⟩) ha
  rw [key]
  constructor
  · rintro (hk | ⟨y, hy, hk⟩)
    · obtain ⟨d, h1, h2, h3⟩ := (race_read h hM hc hG he hf).1 hk
      exact ⟨d, h1, .inr rfl, h3⟩
    · obtain ⟨k, h1, rfl⟩ := hc.r y hy
      refine ⟨k, h1, .inr rfl, fun hh => ?_⟩
      rw [(known_kn h hM h1 hG he hf).2 hh] at hk
      cases hk
  · rintro ⟨d, hd, _, hn⟩
    rcases hc.c d hd with ⟨k, h1, h2, h3⟩ | ⟨k, h1, h2, h3⟩
    · left
      cases hk : knownB x e f with
      | false => rfl
      | true =>
        rw [h2] at hk
        exact absurd (kn_cov h hd h1 h3 hG ((known_kn h hM h1 hG he hf).1 hk)) hn
    · right
      refine ⟨_, h2, ?_⟩
      cases hk : knownB (ep k.g k.n) e f with
      | false => rfl
      | true => exact absurd (kn_cov h hd h1 h3 hG ((known_kn h hM h1 hG he hf).1 hk)) hn

/-- An access is added. -/
theorem vc_add {C : Nat → Nat → Int} {D : List Ac} {M : Int} (h : Vc C D M) {G : Nat} (hG : G < 4) (wr : Bool) : Vc C (D ++ [⟨G, C G G, wr, C G⟩]) M := by
  refine ⟨h.S, h.one, h.bd, fun d hd => ?_, fun d hd g hg hk t => ?_⟩
  · rcases List.mem_append.1 hd with hd | hd
    · exact h.lo d hd
    · obtain rfl := List.mem_singleton.1 hd
      exact ⟨hG, h.one G hG, (h.bd G G hG).2, rfl⟩
  · rcases List.mem_append.1 hd with hd | hd
    · exact h.K d hd g hg hk t
    · obtain rfl := List.mem_singleton.1 hd
      by_cases hgG : g = G
      · subst hgG; exact Int.le_refl _
      · exfalso
        rcases hk with hk | hk
        · exact hgG hk.symm
        · have := h.S g G hg hG hgG
          dsimp only at hk
          omega
theorem cv_read {C : Nat → Nat → Int} {D : List Ac} {M : Int} {x : Int} {l : List Int} (h : Vc C D M) (hM : M ≤ 1048576) (hc : Cv x l D) {G : Nat} (hG : G < 4) {f : Int → Int} (hf : ∀ t : Nat, f t = C G t) (he : tidE (ep G (C G G)) = G) :
    Cv x (readL l (ep G (C G G)) f) (D ++ [⟨G, C G G, false, C G⟩]) := by
  have inc : ∀ d, d ∈ D → d ∈ D ++ [(⟨G, C G G, false, C G⟩ : Ac)] := fun d hd => List.mem_append.2 (.inl hd)
  have me : (⟨G, C G G, false, C G⟩ : Ac) ∈ D ++ [(⟨G, C G G, false, C G⟩ : Ac)] := List.mem_append.2 (.inr (List.mem_singleton.2 rfl))
  refine ⟨?_, fun y hy => ?_, fun d hd => ?_⟩
  · rcases hc.w with ⟨h1, h2⟩ | ⟨k, h1, h2, h3, h4⟩
    · refine .inl ⟨h1, fun d hd => ?_⟩
      rcases List.mem_append.1 hd with hd | hd
      · exact h2 d hd
      · obtain rfl := List.mem_singleton.1 hd; rfl
    · refine .inr ⟨k, inc k h1, h2, h3, fun d hd hw => ?_⟩
      rcases List.mem_append.1 hd with hd | hd
      · exact h4 d hd hw
      · obtain rfl := List.mem_singleton.1 hd; cases hw
  · unfold readL at hy
    rcases mem_ins.1 hy with rfl | hy
    · exact ⟨_, me, rfl⟩
    · obtain ⟨k, h1, h2⟩ := hc.r y (List.mem_filter.1 hy).1
      exact ⟨k, inc k h1, h2⟩
  · rcases List.mem_append.1 hd with hd | hd
    · rcases hc.c d hd with ⟨k, h1, h2, h3⟩ | ⟨k, h1, h2, h3⟩
      · exact .inl ⟨k, inc k h1, h2, h3⟩
      · right
        by_cases hk : knownB (ep k.g k.n) (ep G (C G G)) f = true
        · have hkn := (known_kn h hM h1 hG he hf).1 hk
          refine ⟨_, me, ?_, fun t => ?_⟩
          · unfold readL; exact mem_ins.2 (.inl rfl)
          · exact Int.le_trans (h3 t) (h.K k h1 G hG hkn t)
        · refine ⟨k, inc k h1, ?_, h3⟩
          unfold readL
          exact mem_ins.2 (.inr (List.mem_filter.2 ⟨h2, by simpa using hk⟩))
    · obtain rfl := List.mem_singleton.1 hd
      right
      exact ⟨_, me, by unfold readL; exact mem_ins.2 (.inl rfl), fun t => Int.le_refl _⟩
theorem cv_write {C : Nat → Nat → Int} {D : List Ac} {M : Int} (h : Vc C D M) {G : Nat} (hG : G < 4) (hr : ¬ Race C D G true) :
    Cv (ep G (C G G)) [] (D ++ [⟨G, C G G, true, C G⟩]) := by
  have me : (⟨G, C G G, true, C G⟩ : Ac) ∈ D ++ [(⟨G, C G G, true, C G⟩ : Ac)] := List.mem_append.2 (.inr (List.mem_singleton.2 rfl))
  have all : ∀ d, d ∈ D ++ [(⟨G, C G G, true, C G⟩ : Ac)] → ∀ t, d.V t ≤ C G t := fun d hd t => by
    rcases List.mem_append.1 hd with hd | hd
    · have hk : Kn C d G := Classical.byContradiction fun hn => hr ⟨d, hd, .inr rfl, hn⟩
      exact h.K d hd G hG hk t
    · obtain rfl := List.mem_singleton.1 hd
      exact Int.le_refl _
  exact ⟨.inr ⟨_, me, rfl, rfl, fun d hd _ => all d hd⟩, fun y hy => by simp at hy, fun d hd => .inl ⟨_, me, rfl, all d hd⟩⟩

/-- What is told, and the tick behind it. -/
def tell (C : Nat → Nat → Int) (G To : Nat) : Nat → Nat → Int := fun g t => if g = G then (if t = G then C G G + 1 else C G t) else if g = To then max (C To t) (C G t) else C g t
theorem vc_tell {C : Nat → Nat → Int} {D : List Ac} {M : Int} (h : Vc C D M) {G To : Nat} (hG : G < 4) (hT : To < 4) : Vc (tell C G To) D (M + 1) := by
  have mono : ∀ g t, g < 4 → C g t ≤ tell C G To g t := fun g t hg => by
    unfold tell
    by_cases h1 : g = G
    · subst h1; rw [if_pos rfl]; split
      · rename_i h2; subst h2; omega
      · omega
    · rw [if_neg h1]; split
      · rename_i h2; subst h2; omega
      · omega
  have hb := h.bd
  refine ⟨fun g k hg hk hne => ?_, fun g hg => Int.le_trans (h.one g hg) (mono g g hg), fun g t hg => ?_, fun d hd => ?_, fun d hd g hg hkn t => ?_⟩
  · have m := mono k k hk
    have s1 := h.S g k hg hk hne
    unfold tell at m ⊢
    by_cases h1 : g = G
    · subst h1
      rw [if_pos rfl, if_neg (Ne.symm hne)]
      rw [if_neg (Ne.symm hne)] at m
      rw [if_neg (Ne.symm hne)]
      omega
    · rw [if_neg h1]
      by_cases h2 : g = To
      · rw [if_pos h2]
        by_cases h3 : k = G
        · subst h3
          rw [if_pos rfl, if_pos rfl]
          have := h.S To k hT hk (by omega)
          omega
        · have s2 := h.S G k hG hk (Ne.symm h3)
          subst h2
          omega
      · rw [if_neg h2]
        omega
  · unfold tell
    have := hb G t hG
    have := hb G G hG
    have := hb g t hg
    have := hb To t hT
    split
    · split <;> omega
    · split <;> omega
  · obtain ⟨h1, h2, h3, h4⟩ := h.lo d hd
    exact ⟨h1, h2, by omega, h4⟩
  · have own : ∀ t, d.V t ≤ C d.g t := h.K d hd d.g (h.lo d hd).1 (.inl rfl)
    by_cases h0 : d.g = g
    · subst h0; exact Int.le_trans (own t) (mono _ t hg)
    · have hn : d.n ≤ tell C G To g d.g := by
        rcases hkn with hkn | hkn
        · exact absurd hkn h0
        · exact hkn
      unfold tell at hn
      by_cases h1 : g = G
      · rw [if_pos h1, if_neg (by omega)] at hn
        exact Int.le_trans (h.K d hd g hg (.inr (by rw [h1]; exact hn)) t) (mono g t hg)
      · rw [if_neg h1] at hn
        by_cases h2 : g = To
        · rw [if_pos h2] at hn
          have hmax : d.n ≤ C To d.g ∨ d.n ≤ C G d.g := by omega
          have e : tell C G To g t = max (C To t) (C G t) := by unfold tell; rw [if_neg h1, if_pos h2]
          rw [e]
          rcases hmax with hm | hm
          · have := h.K d hd To hT (.inr hm) t; omega
          · have := h.K d hd G hG (.inr hm) t; omega
        · rw [if_neg h2] at hn
          exact Int.le_trans (h.K d hd g hg (.inr hn) t) (mono g t hg)
def first4 : Nat → Nat → Int := fun g t => if g = t ∧ t < 4 then 1 else 0
theorem vc_first : Vc first4 [] 1 := by
  refine ⟨fun g h hg hh hne => ?_, fun g hg => ?_, fun g t hg => ?_, fun d hd => by simp at hd, fun d hd => by simp at hd⟩
  · unfold first4; rw [if_neg (by omega), if_pos ⟨rfl, hh⟩]; omega
  · unfold first4; rw [if_pos ⟨rfl, hg⟩]; omega
  · unfold first4; split <;> omega
theorem cv_first : Cv 0 [] [] := ⟨.inl ⟨rfl, fun d hd => by simp at hd⟩, fun y hy => by simp at hy, fun d hd => by simp at hd⟩
/-- The race, as the law reckons it. -/
def raceB (D : List Ac) (f : Int → Int) (G : Nat) (wr : Bool) (k : Nat) : Bool := (D.take k).any fun d => (d.wr || wr) && (!decide (d.g = G) && decide (f d.g < d.n))
theorem raceB_step {D : List Ac} {k : Nat} (hk : k < D.length) (f : Int → Int) (G : Nat) (wr : Bool) : raceB D f G wr (k + 1) = (raceB D f G wr k || ((D[k].wr || wr) && (!decide (D[k].g = G) && decide (f D[k].g < D[k].n)))) := by
  unfold raceB
  rw [List.take_add_one, List.any_append, List.getElem?_eq_getElem hk]
  simp
theorem race_iff {C : Nat → Nat → Int} {D : List Ac} {G : Nat} {wr : Bool} {f : Int → Int} (hf : ∀ t : Nat, f t = C G t) : raceB D f G wr D.length = true ↔ Race C D G wr := by
  unfold raceB Race
  rw [List.take_of_length_le (Nat.le_refl _), List.any_eq_true]
  constructor
  · rintro ⟨d, hd, h⟩
    simp at h
    refine ⟨d, hd, h.1, ?_⟩
    rintro (hk | hk)
    · exact h.2.1 hk
    · have := h.2.2; rw [hf] at this; omega
  · rintro ⟨d, hd, h1, h2⟩
    refine ⟨d, hd, ?_⟩
    have h3 : ¬ d.g = G := fun hh => h2 (.inl hh)
    have h4 : f d.g < d.n := by rw [hf]; exact Int.not_le.1 fun hh => h2 (.inr hh)
    simp [h1, h3, h4]
end Go.Proofs.Ytonegedenmchbaa

