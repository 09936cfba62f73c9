
/-
  Remap: plain laws of lists of records.
-/
import Derived.Test.YtmhonibalgddcaaRemK
namespace Go.Proofs.Ytmhonibalgddcaa
set_option linter.unusedVariables false
set_option linter.unusedSimpArgs false

def Nd (rs : List Rec) : Prop := rs.Pairwise (fun a b => a.g ≠ b.g)
theorem nd_of_srt {rs : List Rec} (h : Srt rs) : Nd rs := by
  unfold Nd
  rw [List.pairwise_iff_getElem]
  intro i j hi hj hij e
  have := h i j hij hj
  rw [List.getD_eq_getElem?_getD, List.getD_eq_getElem?_getD, List.getElem?_eq_getElem hi, List.getElem?_eq_getElem hj] at this
  simp at this
  omega
theorem nd_perm {a b : List Rec} (h : a.Perm b) (k : Nd a) : Nd b := (h.pairwise_iff (fun h => Ne.symm h)).1 k
theorem look_mem {rs : List Rec} {g : Int} {r : Rec} (h : look rs g = some r) : r ∈ rs ∧ r.g = g := by
  unfold look at h
  exact ⟨List.mem_of_find?_eq_some h, by simpa using List.find?_some h⟩
theorem nd_eq {rs : List Rec} (h : Nd rs) {a b : Rec} (ha : a ∈ rs) (hb : b ∈ rs) (e : a.g = b.g) : a = b := by
  obtain ⟨i, hi, rfl⟩ := List.getElem_of_mem ha
  obtain ⟨j, hj, rfl⟩ := List.getElem_of_mem hb
  unfold Nd at h
  rw [List.pairwise_iff_getElem] at h
  rcases Nat.lt_trichotomy i j with h1 | h1 | h1
  · exact absurd e (h i j hi hj h1)
  · subst h1; rfl
  · exact absurd e.symm (h j i hj hi h1)
theorem look_iff {rs : List Rec} (h : Nd rs) {g : Int} {r : Rec} : look rs g = some r ↔ r ∈ rs ∧ r.g = g := by
  refine ⟨look_mem, fun ⟨h1, h2⟩ => ?_⟩
  cases hl : look rs g with
  | none =>
    unfold look at hl
    rw [List.find?_eq_none] at hl
    have := hl r h1
    simp [h2] at this
  | some s =>
    obtain ⟨h3, h4⟩ := look_mem hl
    rw [nd_eq h h1 h3 (by omega)]
theorem look_perm {a b : List Rec} (h : a.Perm b) (k : Nd a) (g : Int) : look a g = look b g := by
  apply Option.ext
  intro r
  rw [look_iff k, look_iff (nd_perm h k), h.mem_iff]
theorem taken_perm {a b : List Rec} (h : a.Perm b) (tid at' : Int) : takenB a tid at' = takenB b tid at' := by
  unfold takenB
  rw [Bool.eq_iff_iff, List.any_eq_true, List.any_eq_true]
  exact ⟨fun ⟨r, h1, h2⟩ => ⟨r, h.mem_iff.1 h1, h2⟩, fun ⟨r, h1, h2⟩ => ⟨r, h.mem_iff.2 h1, h2⟩⟩
theorem bornE_perm {a b : List Rec} (h : a.Perm b) (k : Nd a) (g tid at' : Int) : bornE a g tid at' = bornE b g tid at' := by
  unfold bornE
  rw [look_perm h k, taken_perm h]
theorem goneE_perm {a b : List Rec} (h : a.Perm b) (k : Nd a) (g at' cut : Int) : goneE a g at' cut = goneE b g at' cut := by
  unfold goneE
  rw [look_perm h k]
theorem goneTo_perm {a b a' b' : List Rec} {g at' cut : Int} (h : a.Perm b) (k : Nd a) (h1 : GoneTo a a' g at' cut) (h2 : GoneTo b b' g at' cut) : a'.Perm b' := by
  obtain ⟨r, x, y, l1, rfl, rfl⟩ := h1
  obtain ⟨s, u, v, l2, rfl, rfl⟩ := h2
  have e : some r = some s := by rw [← l1, ← l2]; exact look_perm h k g
  cases e
  have h3 : (r :: (x ++ y)).Perm (r :: (u ++ v)) := List.perm_middle.symm.trans (h.trans List.perm_middle)
  have h4 := h3.cons_inv
  exact List.perm_middle.trans ((h4.cons _).trans List.perm_middle.symm)

theorem bornE_zero {rs : List Rec} {g tid at' : Int} (h : bornE rs g tid at' = 0) : 0 ≤ g ∧ 0 ≤ tid ∧ -1 ≤ at' ∧ takenB rs tid at' = false ∧ look rs g = none := by
  rcases bad_cases g tid at' with ⟨hv, _⟩ | ⟨hv, h1, h2, h3, h4⟩
  · rw [born_bad hv] at h; cases h
  · cases ht : takenB rs tid at' with
    | true => rw [born_taken hv ht] at h; cases h
    | false =>
      cases hl : look rs g with
      | some r => rw [born_there hv ht hl] at h; cases h
      | none => exact ⟨h1, h2, h4, rfl, rfl⟩
theorem goneE_zero {rs : List Rec} {g at' cut : Int} {r : Rec} (h : goneE rs g at' cut = 0) (hl : look rs g = some r) : r.gone = false ∧ r.frm ≤ at' := by
  rcases badc_cases at' cut with ⟨hv, _⟩ | ⟨hv, h1, h2, h3⟩
  · rw [gone_bad hv] at h; cases h
  · cases hx : (r.gone || decide (at' < r.frm)) with
    | true => rw [gone_no hv hl hx] at h; cases h
    | false =>
      rw [Bool.or_eq_false_iff] at hx
      exact ⟨hx.1, by have := of_decide_eq_false hx.2; omega⟩

/-! ### What a step does -/
/-- A record stays. -/
def Grows (a b : List Rec) : Prop := ∀ g r, look a g = some r → ∃ r', look b g = some r' ∧ r'.tid = r.tid ∧ r'.frm = r.frm ∧ (r.gone = true → r' = r)
theorem Grows.refl (a : List Rec) : Grows a a := fun g r h => ⟨r, h, rfl, rfl, fun _ => rfl⟩
theorem grows_born {a b : List Rec} {n : Rec} (h : b.Perm (n :: a)) (k : Nd b) : Grows a b := fun g r hl => by
  obtain ⟨h1, h2⟩ := look_mem hl
  exact ⟨r, (look_iff k).2 ⟨h.mem_iff.2 (List.mem_cons_of_mem _ h1), h2⟩, rfl, rfl, fun _ => rfl⟩
theorem grows_gone {a b : List Rec} {g0 at' cut : Int} (h0 : goneE a g0 at' cut = 0) (h : GoneTo a b g0 at' cut) (k : Nd b) : Grows a b := fun g r hl => by
  obtain ⟨x, u, v, l1, rfl, rfl⟩ := h
  obtain ⟨h1, h2⟩ := look_mem hl
  obtain ⟨z1, z2⟩ := goneE_zero h0 l1
  rw [List.mem_append, List.mem_cons] at h1
  have other : r ∈ u ++ goneR x at' cut :: v → ∃ r', look (u ++ goneR x at' cut :: v) g = some r' ∧ r'.tid = r.tid ∧ r'.frm = r.frm ∧ (r.gone = true → r' = r) := fun hm => ⟨r, (look_iff k).2 ⟨hm, h2⟩, rfl, rfl, fun _ => rfl⟩
  rcases h1 with h1 | rfl | h1
  · exact other (by simp [h1])
  · exact ⟨goneR r at' cut, (look_iff k).2 ⟨by simp, h2⟩, rfl, rfl, fun hg => by rw [z1] at hg; cases hg⟩
  · exact other (by simp [h1])

/-- No two have one tid at one place. -/
def One (rs : List Rec) : Prop := ∀ r s, r ∈ rs → s ∈ rs → r.g ≠ s.g → r.tid = s.tid → (r.gone = true ∧ r.till ≤ s.frm) ∨ (s.gone = true ∧ s.till ≤ r.frm)
theorem one_born {a b : List Rec} {g tid at' : Int} (h : b.Perm (bornR g tid at' :: a)) (h0 : bornE a g tid at' = 0) (k : One a) : One b := by
  obtain ⟨_, _, _, ht, _⟩ := bornE_zero h0
  have key : ∀ r, r ∈ a → r.tid = tid → r.gone = true ∧ r.till ≤ at' := fun r hr e => by
    unfold takenB at ht
    rw [List.any_eq_false] at ht
    have := ht r hr
    unfold heldB at this
    simp [e] at this
    exact this
  intro r s hr hs hg e
  have hr := h.mem_iff.1 hr
  have hs := h.mem_iff.1 hs
  rw [List.mem_cons] at hr hs
  rcases hr with rfl | hr
  · rcases hs with rfl | hs
    · exact absurd rfl hg
    · exact .inr (key s hs e.symm)
  · rcases hs with rfl | hs
    · exact .inl (key r hr e)
    · exact k r s hr hs hg e
theorem one_gone {a b : List Rec} {g at' cut : Int} (h0 : goneE a g at' cut = 0) (h : GoneTo a b g at' cut) (k : One a) : One b := by
  obtain ⟨x, u, v, l1, rfl, rfl⟩ := h
  obtain ⟨z1, z2⟩ := goneE_zero h0 l1
  have back : ∀ r, r ∈ u ++ goneR x at' cut :: v → (r ∈ u ++ x :: v) ∨ r = goneR x at' cut := fun r hr => by
    rw [List.mem_append, List.mem_cons] at hr
    rcases hr with hr | rfl | hr
    · exact .inl (by simp [hr])
    · exact .inr rfl
    · exact .inl (by simp [hr])
  have hx : x ∈ u ++ x :: v := by simp
  intro r s hr hs hg e
  rcases back r hr with hr | rfl
  · rcases back s hs with hs | rfl
    · exact k r s hr hs hg e
    · rcases k r x hr hx hg e with h1 | h1
      · exact .inl h1
      · rw [z1] at h1; exact absurd h1.1 (by decide)
  · rcases back s hs with hs | rfl
    · rcases k x s hx hs hg e with h1 | h1
      · rw [z1] at h1; exact absurd h1.1 (by decide)
      · exact .inr h1
    · exact absurd rfl hg
theorem one_has {rs : List Rec} (k : One rs) {tid at' : Int} {r s : Rec} (hr : r ∈ rs) (hs : s ∈ rs) (h1 : hasB r tid at' = true) (h2 : hasB s tid at' = true) : r.g = s.g := by
  unfold hasB at h1 h2
  simp at h1 h2
  obtain ⟨⟨a1, a2⟩, a3⟩ := h1
  obtain ⟨⟨b1, b2⟩, b3⟩ := h2
  by_cases e : r.g = s.g
  · exact e
  · rcases k r s hr hs e (by omega) with ⟨c1, c2⟩ | ⟨c1, c2⟩
    · rcases a3 with h | h
      · rw [c1] at h; cases h
      · omega
    · rcases b3 with h | h
      · rw [c1] at h; cases h
      · omega
theorem own_mem {rs : List Rec} {tid at' : Int} {g : Int} (h : ownOut rs tid at' = (g, true)) : ∃ r, r ∈ rs ∧ r.g = g ∧ hasB r tid at' = true := by
  unfold ownOut at h
  cases hf : rs.find? (fun r => hasB r tid at') with
  | none => rw [hf] at h; cases h
  | some r =>
    rw [hf] at h
    cases h
    exact ⟨r, List.mem_of_find?_eq_some hf, rfl, by simpa using List.find?_some hf⟩
def hasAny (rs : List Rec) (tid at' : Int) : Bool := rs.any (fun r => hasB r tid at')
theorem own_any (rs : List Rec) (tid at' : Int) : (ownOut rs tid at').2 = hasAny rs tid at' ∧ ((ownOut rs tid at').2 = false → (ownOut rs tid at').1 = 0) := by
  unfold ownOut hasAny
  cases hf : rs.find? (fun r => hasB r tid at') with
  | none =>
    rw [List.find?_eq_none] at hf
    refine ⟨?_, fun _ => rfl⟩
    symm
    rw [List.any_eq_false]
    exact hf
  | some r =>
    refine ⟨?_, fun h => by cases h⟩
    symm
    rw [List.any_eq_true]
    exact ⟨r, List.mem_of_find?_eq_some hf, by simpa using List.find?_some hf⟩
theorem hasAny_perm {a b : List Rec} (h : a.Perm b) (tid at' : Int) : hasAny a tid at' = hasAny b tid at' := by
  unfold hasAny
  rw [Bool.eq_iff_iff, List.any_eq_true, List.any_eq_true]
  exact ⟨fun ⟨r, h1, h2⟩ => ⟨r, h.mem_iff.1 h1, h2⟩, fun ⟨r, h1, h2⟩ => ⟨r, h.mem_iff.2 h1, h2⟩⟩

theorem srt_one (r : Rec) : Srt [r] := fun a b hab hb => by simp at hb; omega
theorem srt_perm {a b : List Rec} (ha : Srt a) (hb : Srt b) (h : a.Perm b) : a = b := by
  have pw : ∀ l : List Rec, Srt l → l.Pairwise (fun x y => x.g < y.g) := fun l hl => by
    rw [List.pairwise_iff_getElem]
    intro i j hi hj hij
    have := hl i j hij hj
    rw [List.getD_eq_getElem?_getD, List.getD_eq_getElem?_getD, List.getElem?_eq_getElem hi, List.getElem?_eq_getElem hj] at this
    simpa using this
  exact List.Perm.eq_of_pairwise (fun x y _ _ h1 h2 => by omega) (pw a ha) (pw b hb) h
def goneL (rs : List Rec) (g at' cut : Int) : List Rec := rs.map (fun r => if r.g = g then goneR r at' cut else r)
theorem goneTo_map {a b : List Rec} {g at' cut : Int} (k : Nd a) (h : GoneTo a b g at' cut) : b = goneL a g at' cut := by
  obtain ⟨x, u, v, l1, rfl, rfl⟩ := h
  obtain ⟨_, hg⟩ := look_mem l1
  have k' : Nd (x :: (u ++ v)) := nd_perm List.perm_middle k
  have other : ∀ r, r ∈ u ++ v → r.g ≠ g := fun r hr e => by
    have := (List.pairwise_cons.1 k').1 r hr
    omega
  unfold goneL
  rw [List.map_append, List.map_cons, if_pos hg]
  congr 1
  · symm
    rw [List.map_congr_left (g := id) (fun r hr => by rw [if_neg (other r (by simp [hr]))]; rfl), List.map_id]
  · congr 1
    symm
    rw [List.map_congr_left (g := id) (fun r hr => by rw [if_neg (other r (by simp [hr]))]; rfl), List.map_id]
end Go.Proofs.Ytmhonibalgddcaa

