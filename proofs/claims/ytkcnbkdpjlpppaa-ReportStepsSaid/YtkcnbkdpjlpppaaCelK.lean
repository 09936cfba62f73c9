
/-
  Package cell: cells with their plain conditions; what Read, Write, Retire leave; the example races.
-/
import Derived.Test.YtkcnbkdpjlpppaaRefE
namespace Go.Proofs.Ytkcnbkdpjlpppaa
open Go.RowKit
set_option linter.unusedVariables false
set_option linter.unusedSimpArgs false
set_option maxRecDepth 100000

/-! ### Plain -/
theorem tidE_bd {e : Int} (h : okE e = true) : 0 ≤ tidE e ∧ tidE e < 256 := by
  obtain ⟨t, c, a, b, d, f, rfl⟩ := ep_of h
  rw [tidE_ep a b d f]; exact ⟨a, b⟩
theorem ok_ne {e : Int} (h : okE e = true) : e ≠ 0 ∧ e ≠ 18446744073709551615 := by
  obtain ⟨a, b, c, d⟩ := of_decide_eq_true h
  constructor <;> (intro h; subst h; omega)
theorem known_own {y e : Int} (f : Int → Int) (hy : okE y = true) (h : tidE y = tidE e) : knownB y e f = true := by
  unfold knownB
  simp [h, (ok_ne hy).2]
theorem srt_len {l : List Int} (h : SrtE l) (ho : ∀ e, e ∈ l → okE e = true) : l.length ≤ 256 := by
  have h1 : ∀ i, i < l.length → (i : Int) ≤ tAt l i := by
    intro i
    induction i with
    | zero =>
      intro hi
      exact (tidE_bd (u64_at ho hi)).1
    | succ i ih =>
      intro hi
      have h2 := ih (by omega)
      have h3 := h i (i + 1) (by omega) hi
      omega
  by_cases h0 : l.length = 0
  · omega
  · have h2 := h1 (l.length - 1) (by omega)
    have h3 := (tidE_bd (u64_at ho (i := l.length - 1) (by omega))).2
    unfold tAt at h2
    omega
theorem tAt_ins {l : List Int} {e : Int} {i : Nat} (hi : i ≤ l.length) (t : Nat) : tAt (l.take i ++ [e] ++ l.drop i) t = if t < i then tAt l t else if t = i then tidE e else tAt l (t - 1) := by
  unfold tAt
  have hl : (l.take i).length = i := by rw [List.length_take, Nat.min_eq_left hi]
  simp only [List.getD_eq_getElem?_getD]
  rw [List.append_assoc]
  by_cases h1 : t < i
  · rw [List.getElem?_append_left (by omega), if_pos h1, List.getElem?_take_of_lt h1]
  · rw [List.getElem?_append_right (by omega), hl, if_neg h1]
    by_cases h2 : t = i
    · subst h2; simp
    · rw [if_neg h2, List.getElem?_append_right (by simp; omega), List.getElem?_drop]
      simp only [List.length_cons, List.length_nil]
      rw [show i + (t - i - (0 + 1)) = t - 1 by omega]
theorem srt_ins {l : List Int} {e : Int} (hs : SrtE l) (hn : ∀ y, y ∈ l → tidE y ≠ tidE e) : SrtE (insL l e) := by
  intro a b hab hlt
  rw [insL_len] at hlt
  have hi := pos_le l (tidE e)
  have hb : ∀ t, t < posOf l (tidE e) → tAt l t < tidE e := fun t ht => pos_before ht
  have ha : ∀ t, posOf l (tidE e) ≤ t → t < l.length → tidE e < tAt l t := fun t h1 h2 => by
    have h3 := pos_at (l := l) (t := tidE e) (by omega)
    have hne : ∀ t, t < l.length → tAt l t ≠ tidE e := fun t ht => by
      apply hn
      rw [List.getD_eq_getElem?_getD, List.getElem?_eq_getElem ht]; exact List.getElem_mem _
    have h4 := hne (posOf l (tidE e)) (by omega)
    by_cases h5 : t = posOf l (tidE e)
    · subst h5; omega
    · have := hs (posOf l (tidE e)) t (by omega) h2
      omega
  unfold insL
  rw [tAt_ins hi, tAt_ins hi]
  split
  · rename_i h1
    split
    · exact hs a b hab (by omega)
    · split
      · exact hb a h1
      · have := hb a h1; have := ha (b - 1) (by omega) (by omega); omega
  · split
    · rw [if_neg (by omega), if_neg (by omega)]
      exact ha (b - 1) (by omega) (by omega)
    · rw [if_neg (by omega), if_neg (by omega)]
      exact hs (a - 1) (b - 1) (by omega) (by omega)
theorem mem_ins {l : List Int} {e y : Int} : y ∈ insL l e ↔ y = e ∨ y ∈ l := by
  unfold insL
  rw [List.append_assoc, List.singleton_append, List.perm_middle.mem_iff, List.take_append_drop, List.mem_cons]
theorem okc_read {x e : Int} {l : List Int} (f : Int → Int) (h : OkC x l) (he : okE e = true) : OkC x (readL l e f) := by
  have hs : SrtE (keptL l e f) := srt_filter h.srt _
  have ho : ∀ y, y ∈ keptL l e f → okE y = true := fun y hy => h.ok y (List.mem_filter.1 hy).1
  have hn : ∀ y, y ∈ keptL l e f → tidE y ≠ tidE e := fun y hy ht => by
    have h2 := (List.mem_filter.1 hy).2
    rw [known_own f (ho y hy) ht] at h2
    cases h2
  have h1 : SrtE (readL l e f) := srt_ins hs hn
  have h2 : ∀ y, y ∈ readL l e f → okE y = true := fun y hy => by
    rcases mem_ins.1 hy with rfl | h3
    · exact he
    · exact ho y h3
  exact ⟨h.u, h1, h2, srt_len h1 h2⟩
theorem okc_write {e : Int} (he : okE e = true) : OkC e [] := ⟨okE_u64 he, fun a b _ hb => by simp at hb, fun y hy => by simp at hy, by simp⟩
theorem okc_new : OkC 0 [] := ⟨⟨by omega, by omega⟩, fun a b _ hb => by simp at hb, fun y hy => by simp at hy, by simp⟩
theorem okc_ret {x : Int} {l : List Int} (tid cut : Int) (h : OkC x l) : OkC (retX x tid cut) (retL l tid) := by
  refine ⟨?_, srt_filter h.srt _, fun y hy => h.ok y (List.mem_filter.1 hy).1, Nat.le_trans (List.length_filter_le _ _) h.len⟩
  unfold retX
  split
  · split
    · exact ⟨by omega, by omega⟩
    · exact ⟨by omega, by omega⟩
  · exact h.u

/-! ### Cells -/
def Ce (B : Nat) (w : World) (b : Nat) (x : Int) (l : List Int) (tl : Bool) : Prop := (∃ v, Cl B w b v x l tl) ∧ OkC x l ∧ B ≤ w.heap.size
theorem Ce.below {B : Nat} {w w' : World} {b : Nat} {x : Int} {l : List Int} {tl : Bool} (h : Ce B w b x l tl) (hB : Below w.heap.size w w') : Ce B w' b x l tl := by
  obtain ⟨⟨v, h1⟩, h2, h3⟩ := h
  exact ⟨⟨v, h1.below hB⟩, h2, Nat.le_trans h3 hB.size⟩
theorem Ce.drew {B : Nat} {w : World} {b : Nat} {x : Int} {l : List Int} {tl : Bool} (h : Ce B w b x l tl) : Ce B w.drew b x l tl := by
  obtain ⟨⟨v, h1⟩, h2, h3⟩ := h
  exact ⟨⟨v, ⟨h1.blk, h1.low, h1.row⟩⟩, h2, h3⟩
theorem Ce.low {B : Nat} {w : World} {b : Nat} {x : Int} {l : List Int} {tl : Bool} (h : Ce B w b x l tl) : B ≤ b ∧ b < w.heap.size := by
  obtain ⟨⟨v, h1⟩, h2, h3⟩ := h
  exact ⟨h1.low, h1.lt⟩
theorem ckn_of {B : Nat} {w : World} {b : Nat} {v : Value} {x : Int} {l : List Int} {tl : Bool} {cv : Value} {f : Int → Int} (h : Cl B w b v x l tl) (hc : CkV w cv f) : CkN b w cv f := by
  intro w' ht
  rcases hc with hc | ⟨c, k, h1, h2, h3⟩
  · exact .inl hc
  · refine .inr ⟨c, k, h1, h2.frame (fun i hi hh => ht.block i hi ?_), h3⟩
    rintro rfl
    obtain ⟨ao, cap, hb, _, _, hx⟩ := h2
    rcases hh with rfl | ⟨hp, rfl⟩
    · rw [h.blk] at hb
      have := Option.some.inj hb
      injection this with e1 e2
      revert e2; decide
    · obtain ⟨_, cur, hg, _⟩ := hx hp
      rw [h.blk] at hg
      have := Option.some.inj hg
      injection this with e1 e2
      revert e2; decide
theorem ckv_turned {B : Nat} {w w' : World} {b : Nat} {x : Int} {l : List Int} {tl : Bool} {cv : Value} {f : Int → Int} (h : Ce B w b x l tl) (hc : CkV w cv f) (ht : Turned (fun i => i = b) w w') : CkV w' cv f := by
  obtain ⟨⟨v, h1⟩, _⟩ := h
  exact ckn_of h1 hc w' ht
/-- What has turned keeps what was below. -/
theorem turned_low {B : Nat} {w0 w w' : World} {b : Nat} (h : Below B w0 w) (hB : B ≤ w0.heap.size) (hb : B ≤ b) (ht : Turned (fun i => i = b) w w') : Below B w0 w' := below_turned h ht hB (fun i hi => by have : i = b := hi; omega)

def ReadC (B b : Nat) (x : Int) (l : List Int) (tl : Bool) (e : Int) (f : Int → Int) (w : World) (r : Ending) (w' : World) : Prop :=
  r = .returned (.tuple #[.int .i64 (if knownB x e f then 0 else 1), .int .i64 0]) ∧ Turned (fun i => i = b) w w' ∧ Ce B w' b x (readL l e f) tl
theorem ce_read {B b : Nat} {x : Int} {l : List Int} {tl : Bool} {w : World} (h : Ce B w b x l tl) (e : Int) (cv : Value) (f : Int → Int) (he : okE e = true) (hc : CkV w cv f) :
    Calls Try.prog 23 #[.pointer (some ⟨b, 0, none⟩), .int .u64 e, cv] w (ReadC B b x l tl e f w) := by
  obtain ⟨⟨v, h1⟩, h2, h3⟩ := h
  refine (cread_any B b v x l tl e cv f w h1 h2 h3 he (ckn_of h1 hc)).mono ?_
  rintro r w' ⟨e1, e2, e3⟩
  exact ⟨e1, e2, e3, okc_read f h2 he, Nat.le_trans h3 e2.size⟩
def WriteC (B b : Nat) (x : Int) (l : List Int) (tl : Bool) (e : Int) (f : Int → Int) (w : World) (r : Ending) (w' : World) : Prop :=
  r = .returned (.tuple #[.int .i64 (writeV x l tl e f), .int .i64 0]) ∧ Turned (fun i => i = b) w w' ∧ Ce B w' b e [] false
theorem ce_write {B b : Nat} {x : Int} {l : List Int} {tl : Bool} {w : World} (h : Ce B w b x l tl) (e : Int) (cv : Value) (f : Int → Int) (he : okE e = true) (hc : CkV w cv f) :
    Calls Try.prog 24 #[.pointer (some ⟨b, 0, none⟩), .int .u64 e, cv] w (WriteC B b x l tl e f w) := by
  obtain ⟨⟨v, h1⟩, h2, h3⟩ := h
  refine (cwrite_any B b v x l tl e cv f w h1 h2 he (ckn_of h1 hc)).mono ?_
  rintro r w' ⟨e1, e2, e3⟩
  exact ⟨e1, e2, ⟨_, e3⟩, okc_write he, Nat.le_trans h3 e2.size⟩
def RetC (B b : Nat) (x : Int) (l : List Int) (tl : Bool) (tid cut : Int) (w : World) (r : Ending) (w' : World) : Prop :=
  r = .returned (.int .i64 0) ∧ Turned (fun i => i = b) w w' ∧ Ce B w' b (retX x tid cut) (retL l tid) (retT l tl tid cut)
theorem ce_ret {B b : Nat} {x : Int} {l : List Int} {tl : Bool} {w : World} (h : Ce B w b x l tl) (tid cut : Int) (hg : retBad tid cut = false) :
    Calls Try.prog 25 #[.pointer (some ⟨b, 0, none⟩), .int .i64 tid, .int .i64 cut] w (RetC B b x l tl tid cut w) := by
  obtain ⟨⟨v, h1⟩, h2, h3⟩ := h
  refine (cret_any B b v x l tl tid cut w h1 h2 h3 hg).mono ?_
  rintro r w' ⟨e1, e2, e3⟩
  exact ⟨e1, e2, e3, okc_ret tid cut h2, Nat.le_trans h3 e2.size⟩
theorem ce_new (B : Nat) (w : World) (hB : B ≤ w.heap.size) : Calls Try.prog 28 #[] w fun e w' => (∃ b, e = .returned (.pointer (some ⟨b, 0, none⟩)) ∧ Ce B w' b 0 [] false ∧ w.heap.size ≤ b) ∧ Below w.heap.size w w' := by
  refine (cnew_any B w hB).mono ?_
  rintro e w' ⟨⟨b, h1, h2, h3⟩, h4⟩
  exact ⟨⟨b, h1, ⟨⟨_, h2⟩, okc_new, Nat.le_trans hB h4.size⟩, h3⟩, h4⟩
theorem ckv_new (w : World) : Calls Try.prog 27 #[] w fun r w' => ∃ c, r = .returned (.pointer (some ⟨c, 0, none⟩)) ∧ CkV w' (.pointer (some ⟨c, 0, none⟩)) (fun _ => 0) ∧ Below w.heap.size w w' := by
  refine (new_any w).mono ?_
  rintro r w' ⟨rfl, h1, h2⟩
  refine ⟨_, rfl, .inr ⟨_, _, rfl, h1, ?_⟩, h2⟩
  funext t
  simp [at0]

end Go.Proofs.Ytkcnbkdpjlpppaa

