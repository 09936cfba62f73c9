
/-
  Package slots: Peek, kept.
-/
import Derived.Test.YtlkfhobacgnckaaSlH
namespace Go.Proofs.Ytlkfhobacgnckaa
open Go.RowKit
set_option linter.unusedVariables false
set_option linter.unusedSimpArgs false
set_option maxRecDepth 100000
attribute [local go_sem ↓] Go.wp_at_zero Go.wp_at_succ

theorem peek_nil (x : Bool) (w : World) : Calls Try.prog 22 #[.pointer none, .bool x] w fun r w' => r = .returned (.tuple #[.pointer none, .bool false]) ∧ w = w' := by
  go_enter Try.func22, Try.ntmps22
  go_wp2_with fail
  go_ret2
  exact ⟨rfl, rfl⟩

theorem Hass.head {F : Nat → Option Ck} {b : Nat} {bs : List Nat} {ls : List (List Int)} (h : Hass F (b :: bs) ls) : ∃ l, ls.head? = some l ∧ Has F b l := by
  cases ls with
  | nil => exact h.elim
  | cons l ls => exact ⟨l, rfl, h.1⟩
/-- Of a row of clocks the first one's pointer. -/
theorem row_head {w : World} {base : Nat} {v : Value} {b : Nat} {tl : List Nat} (h : w.ownsRow base 28 1 v (b :: tl).length (ptrs (b :: tl))) : ∃ g cap, v = .slice (some ⟨g, 0, none⟩) (tl.length + 1) cap ∧ w.cell? ⟨g, 0, none⟩ = some (.pointer (some ⟨b, 0, none⟩)) := by
  rcases h.2 with ⟨rfl, h0⟩ | ⟨g, cap, cur, rfl, hbg, hg, hle, _, hcs, ht⟩
  · simp at h0
  · refine ⟨g, cap, rfl, ?_⟩
    obtain ⟨_, _, e, _, hc⟩ := PSrc.of_owns h
    obtain ⟨_, _, e2, hc⟩ := hc (by simp)
    cases e; cases e2
    have := hc 0 (by simp)
    simpa using this

theorem peek_recv {B s : Nat} {w : World} {F : Nat → Option Ck} {vS vR : Value} {sb rb : List Nat} {cb : Option Nat} {M : Md} (h : SlAt B s w F vS vR sb rb cb M) :
    Calls Try.prog 22 #[.pointer (some ⟨s, 0, none⟩), .bool false] w (PeekPost B s F vS vR sb rb cb M (M.peekF false) w) := by
  have H := Lib.hid h
  obtain ⟨⟨c0, c1, c2, c3, c4, c5⟩, hf⟩ := h.cells
  have hs := h.hS
  clear c0 c2 c3 c4 c5
  cases sb with
  | nil =>
    have E := Lib.hid (show M.peekF false = none from by
      cases hS : M.S with
      | nil => unfold Md.peekF; rw [hS]; rfl
      | cons _ _ => rw [hS] at hs; exact hs.elim)
    obtain ⟨ao, cap, rfl⟩ := owns_slice h.rowS
    clear h hs hf
    simp only [List.length_nil] at c1
    go_enter Try.func22, Try.ntmps22
    go_wp2_with fail
    go_ret2
    exact ⟨none, F, by rw [E.out]; rfl, H.out, Same.refl _, by rw [E.out]; rfl, KeepS.refl _ _⟩
  | cons b0 tl =>
    obtain ⟨l, hl, hb⟩ := hs.head
    have E := Lib.hid (show M.peekF false = some l from hl)
    have HB := Lib.hid hb
    obtain ⟨g, cap, rfl, g0⟩ := row_head h.rowS
    clear h hs hf hl hb
    go_enter Try.func22, Try.ntmps22
    go_wp2_with fail
    refine (fam_copy H.out.fam H.out.bw b0 l HB.out).mono ?_
    rintro r w3 ⟨b', F', rfl, hF3, hb3, hlt3, hS3, hK3⟩
    go_wp2_with fail
    go_ret2
    exact ⟨some ⟨b', 0, none⟩, F', by rw [E.out]; rfl, H.out.keepP hF3 hS3 hK3, hS3, by rw [E.out]; exact ⟨b', rfl, hb3, fun hm => by have := H.out.old _ hm; omega⟩, hK3.s⟩

theorem peek_send {B s : Nat} {w : World} {F : Nat → Option Ck} {vS vR : Value} {sb rb : List Nat} {cb : Option Nat} {M : Md} (h : SlAt B s w F vS vR sb rb cb M) :
    Calls Try.prog 22 #[.pointer (some ⟨s, 0, none⟩), .bool true] w (PeekPost B s F vS vR sb rb cb M (M.peekF true) w) := by
  have H := Lib.hid h
  obtain ⟨⟨c0, c1, c2, c3, c4, c5⟩, hf⟩ := h.cells
  have hs := h.hR
  clear c0 c3 c4 c5
  cases hd : M.due with
  | false =>
    have DUE := Lib.hid hd
    have E := Lib.hid (show M.peekF true = none from by unfold Md.peekF; rw [hd]; rfl)
    clear h hs hf c2 hd
    go_enter Try.func22, Try.ntmps22
    go_wp2_with fail
    refine (due_any H.out false DUE.out).mono ?_
    rintro r w1 ⟨rfl, m, rfl⟩
    go_wp2_with fail
    go_ret2
    exact ⟨none, F, by rw [E.out]; rfl, H.out.drawn _, Same.refl _, by rw [E.out]; rfl, keepS_drawn _ _⟩
  | true =>
    have DUE := Lib.hid hd
    cases rb with
    | nil =>
      have E := Lib.hid (show M.peekF true = none from by
        cases hS : M.R with
        | nil => unfold Md.peekF; rw [hS, hd]; rfl
        | cons _ _ => rw [hS] at hs; exact hs.elim)
      obtain ⟨ao, cap, rfl⟩ := owns_slice h.rowR
      clear h hs hf hd
      simp only [List.length_nil] at c2
      go_enter Try.func22, Try.ntmps22
      go_wp2_with fail
      refine (due_any H.out true DUE.out).mono ?_
      rintro r w1 ⟨rfl, m, rfl⟩
      go_wp2_with fail
      go_ret2
      exact ⟨none, F, by rw [E.out]; rfl, H.out.drawn _, Same.refl _, by rw [E.out]; rfl, keepS_drawn _ _⟩
    | cons b0 tl =>
      obtain ⟨l, hl, hb⟩ := hs.head
      have E := Lib.hid (show M.peekF true = some l from by unfold Md.peekF; rw [hd]; exact hl)
      have HB := Lib.hid hb
      obtain ⟨g, cap, rfl, g0⟩ := row_head h.rowR
      clear h hs hf hl hb hd
      go_enter Try.func22, Try.ntmps22
      go_wp2_with fail
      refine (due_any H.out true DUE.out).mono ?_
      rintro r w1 ⟨rfl, m, rfl⟩
      go_wp2_with fail
      refine (fam_copy (H.out.drawn m).fam (H.out.drawn m).bw b0 l HB.out).mono ?_
      rintro r w3 ⟨b', F', rfl, hF3, hb3, hlt3, hS3, hK3⟩
      go_wp2_with fail
      go_ret2
      exact ⟨some ⟨b', 0, none⟩, F', by rw [E.out]; rfl, (H.out.drawn m).keepP hF3 hS3 hK3, hS3, by rw [E.out]; exact ⟨b', rfl, hb3, fun hm => by have := (H.out.drawn m).old _ hm; omega⟩, (keepS_drawn w m).trans hK3.s⟩
theorem peek_any {B s : Nat} {w : World} {F : Nat → Option Ck} {vS vR : Value} {sb rb : List Nat} {cb : Option Nat} {M : Md} (h : SlAt B s w F vS vR sb rb cb M) (x : Bool) :
    Calls Try.prog 22 #[.pointer (some ⟨s, 0, none⟩), .bool x] w (PeekPost B s F vS vR sb rb cb M (M.peekF x) w) := by
  cases x
  · exact peek_recv h
  · exact peek_send h

/-! ### kept -/
theorem kept_nil (w : World) : Calls Try.prog 36 #[.pointer none] w fun r w' => r = .returned (.slice none 0 0) ∧ w = w' := by
  go_enter Try.func36, Try.ntmps36
  go_wp2_with fail
  go_ret
  exact ⟨rfl, rfl⟩
def KeptPost (K : List Nat) (w : World) (r : Ending) (w' : World) : Prop := ∃ v, r = .returned v ∧ w'.ownsRow w.heap.size 28 1 v K.length (ptrs K) ∧ Below w.heap.size w w'
theorem below_grown {B : Nat} {a w w' : World} {base n : Nat} {v : Value} {xs : List Value} (h : Below B a w) (hr : w.ownsRow base 28 1 v n xs) (hg : w.grownBy w' v.ownBlock) (hle : B ≤ base) (hB : B ≤ a.heap.size) : Below B a w' :=
  h.grown hg (Nat.le_trans hB h.size) (fun k hk => Nat.le_trans hle (own_lt hr hk).2)

set_option maxHeartbeats 1000000 in
theorem kept_any {B s : Nat} {w : World} {F : Nat → Option Ck} {vS vR : Value} {sb rb : List Nat} {cb : Option Nat} {M : Md} (h : SlAt B s w F vS vR sb rb cb M) (hl1 : sb.length ≤ 40000) (hl2 : rb.length ≤ 40000) :
    Calls Try.prog 36 #[.pointer (some ⟨s, 0, none⟩)] w (KeptPost (sb ++ rb ++ cb.toList) w) := by
  have H := Lib.hid h
  obtain ⟨⟨c0, c1, c2, c3, c4, c5⟩, hf⟩ := h.cells
  have hsl := lt_of_heap h.blk
  have n1 : w.heap.size ≠ s := by omega
  have LIT : ((w.drew).alloc (.cells #[] 28)).ownsRow w.heap.size 28 1 (.slice (some ⟨w.heap.size, 0, none⟩) 0 0) 0 (ptrs []) := World.ownsRow_lit w.drew #[] 0 (Nat.le_refl _) (Nat.zero_le _) rfl
  have BL : Below w.heap.size w ((w.drew).alloc (.cells #[] 28)) := ((Below.refl _ _).drew).alloc (Nat.le_refl _) _
  have L := Lib.hid (And.intro LIT BL)
  have PS := Lib.hid ((PSrc.of_owns h.rowS).below (Nat.le_refl _) BL)
  have PR := Lib.hid (PSrc.of_owns h.rowR)
  have N1 := Lib.hid hl1
  have N2 := Lib.hid hl2
  have BK := Lib.hid h.blk
  clear c0 c3 c4 h hf LIT BL hl1 hl2
  cases cb with
  | none =>
    simp only [Option.map_none] at c5
    go_enter Try.func36, Try.ntmps36
    go_wp2_with fail
    go_region_held3 (fun w' => w'.cell? ⟨s, 1, none⟩ = some vS ∧ w'.cell? ⟨s, 2, none⟩ = some vR) (go_keep)
      (first
        | (refine step_append_psrc rfl _ _ (by rfl) w.heap.size (.slice (some ⟨w.heap.size, 0, none⟩) 0 0) 0 [] (by rfl) L.out.1 vS sb (by rfl) PS.out (by have := N1.out; omega) (by simp) ?_; intro v1 w1 hown1 hg1; have B1 := below_grown L.out.2 L.out.1 hg1 (Nat.le_refl _) (Nat.le_refl _); have e1 := (B1.cell (p := ⟨s, 1, none⟩) hsl).trans c1; have e2 := (B1.cell (p := ⟨s, 2, none⟩) hsl).trans c2; have Q1 := Lib.hid (And.intro hown1 B1); clear hown1 hg1 B1)
        | (refine step_append_psrc rfl _ _ (by rfl) w.heap.size v1 (0 + sb.length) ([] ++ sb) (by rfl) Q1.out.1 vR rb (by rfl) (PR.out.below (Nat.le_refl _) Q1.out.2) (by have := N1.out; have := N2.out; omega) Q1.out.2.size ?_; intro v2 w2 hown2 hg2; have B2 := below_grown Q1.out.2 Q1.out.1 hg2 (Nat.le_refl _) (Nat.le_refl _); have e3 := (B2.cell (p := ⟨s, 1, none⟩) hsl).trans c1; have e4 := (B2.cell (p := ⟨s, 2, none⟩) hsl).trans c2; have e5 := (B2.cell (p := ⟨s, 5, none⟩) hsl).trans c5; have Q2 := Lib.hid (And.intro hown2 B2); clear hown2 hg2 B2))
    go_wp2_with fail
    go_ret
    exact ⟨v2, rfl, by have := Q2.out.1; simpa using this, Q2.out.2⟩
  | some b0 =>
    simp only [Option.map_some] at c5
    go_enter Try.func36, Try.ntmps36
    go_wp2_with fail
    go_region_held3 (fun w' => w'.cell? ⟨s, 1, none⟩ = some vS ∧ w'.cell? ⟨s, 2, none⟩ = some vR) (go_keep)
      (first
        | (refine step_append_psrc rfl _ _ (by rfl) w.heap.size (.slice (some ⟨w.heap.size, 0, none⟩) 0 0) 0 [] (by rfl) L.out.1 vS sb (by rfl) PS.out (by have := N1.out; omega) (by simp) ?_; intro v1 w1 hown1 hg1; have B1 := below_grown L.out.2 L.out.1 hg1 (Nat.le_refl _) (Nat.le_refl _); have e1 := (B1.cell (p := ⟨s, 1, none⟩) hsl).trans c1; have e2 := (B1.cell (p := ⟨s, 2, none⟩) hsl).trans c2; have Q1 := Lib.hid (And.intro hown1 B1); clear hown1 hg1 B1)
        | (refine step_append_psrc rfl _ _ (by rfl) w.heap.size v1 (0 + sb.length) ([] ++ sb) (by rfl) Q1.out.1 vR rb (by rfl) (PR.out.below (Nat.le_refl _) Q1.out.2) (by have := N1.out; have := N2.out; omega) Q1.out.2.size ?_; intro v2 w2 hown2 hg2; have B2 := below_grown Q1.out.2 Q1.out.1 hg2 (Nat.le_refl _) (Nat.le_refl _); have e3 := (B2.cell (p := ⟨s, 1, none⟩) hsl).trans c1; have e4 := (B2.cell (p := ⟨s, 2, none⟩) hsl).trans c2; have e5 := (B2.cell (p := ⟨s, 5, none⟩) hsl).trans c5; have Q2 := Lib.hid (And.intro hown2 B2); clear hown2 hg2 B2))
    go_wp2_with (at_builtin; refine wpList_append_ptr rfl _ _ rfl w.heap.size v2 (0 + sb.length + rb.length) ([] ++ sb ++ rb) rfl (Q2.out.1.alloc _) w2.heap.size b0 _ rfl (heap_alloc_new _ _) (by have := N1.out; have := N2.out; omega) (by have := Q2.out.2.size; simp; omega) ?_; intro g3 cap3 w3 hown3 hg3 _ _; have Q3 := Lib.hid (And.intro hown3 (below_grown (Q2.out.2.alloc Q2.out.2.size _) (Q2.out.1.alloc _) hg3 (Nat.le_refl _) (Nat.le_refl _))); clear hown3 hg3)
    go_ret
    exact ⟨_, rfl, by have := Q3.out.1; simpa [Nat.add_assoc] using this, Q3.out.2⟩

end Go.Proofs.Ytlkfhobacgnckaa

