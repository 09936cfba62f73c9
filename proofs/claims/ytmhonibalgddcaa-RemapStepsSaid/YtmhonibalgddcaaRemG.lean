
/-
  Package remap: Born.
-/
import Derived.Test.YtmhonibalgddcaaRemF
namespace Go.Proofs.Ytmhonibalgddcaa
open Go.RowKit
set_option linter.unusedVariables false
set_option linter.unusedSimpArgs false
set_option maxRecDepth 100000

/-- Only tables and records have turned, none of them below B. -/
def OthT (t r : TypeId) (B b : Nat) (v : Value) (w w' : World) : Prop := Below B w w' ∧ (∀ e, e ≠ t → e ≠ r → KeepT e w w') ∧ ∀ k, k < w.heap.size → k ≠ b → some k ≠ v.ownBlock → w'.heap[k]? = w.heap[k]?
theorem OthT.refl (t r : TypeId) (B b : Nat) (v : Value) (w : World) : OthT t r B b v w w := ⟨Below.refl _ _, fun e _ _ => KeepT.refl e w, fun _ _ _ _ => rfl⟩
theorem OthT.trans {t r : TypeId} {B d : Nat} {v : Value} {a b c : World} (h : OthT t r B d v a b) (k : OthT t r B d v b c) : OthT t r B d v a c := ⟨h.1.trans k.1, fun e h1 h2 => (h.2.1 e h1 h2).trans (k.2.1 e h1 h2), fun i hi h1 h2 => (k.2.2 i (Nat.lt_of_lt_of_le hi h.1.size) h1 h2).trans (h.2.2 i hi h1 h2)⟩
theorem OthT.below {t r : TypeId} {B b : Nat} {v : Value} {w w' : World} (h : Below w.heap.size w w') (hB : B ≤ w.heap.size) : OthT t r B b v w w' := ⟨h.mono hB, fun e _ _ => keepT_below h, fun k hk _ _ => h.block k hk⟩
theorem OthT.size {t r : TypeId} {B b : Nat} {v : Value} {w w' : World} (h : OthT t r B b v w w') : w.heap.size ≤ w'.heap.size := h.1.size

def badB (g tid at' : Int) : Bool := decide (g < 0) || decide (tid < 0) || decide (255 < tid) || decide (at' < -1)
theorem bad_cases (g tid at' : Int) : (badB g tid at' = true ∧ (g < 0 ∨ (0 ≤ g ∧ tid < 0) ∨ (0 ≤ g ∧ 0 ≤ tid ∧ 256 ≤ tid) ∨ (0 ≤ g ∧ 0 ≤ tid ∧ tid < 256 ∧ at' < -1))) ∨ (badB g tid at' = false ∧ 0 ≤ g ∧ 0 ≤ tid ∧ tid < 256 ∧ -1 ≤ at') := by
  unfold badB
  by_cases h1 : g < 0
  · exact .inl ⟨by simp [h1], .inl h1⟩
  · by_cases h2 : tid < 0
    · exact .inl ⟨by simp [h2], .inr (.inl ⟨by omega, h2⟩)⟩
    · by_cases h3 : 255 < tid
      · exact .inl ⟨by simp [h3], .inr (.inr (.inl ⟨by omega, by omega, by omega⟩))⟩
      · by_cases h4 : at' < -1
        · exact .inl ⟨by simp [h4], .inr (.inr (.inr ⟨by omega, by omega, by omega, h4⟩))⟩
        · exact .inr ⟨by simp [h1, h2, h3, h4], by omega, by omega, by omega, by omega⟩
def bornR (g tid at' : Int) : Rec := ⟨g, tid, at', false, 0, 0⟩
def bornE (rs : List Rec) (g tid at' : Int) : Int := if badB g tid at' then 1 else if takenB rs tid at' then 7 else if (look rs g).isSome then 7 else 0
theorem born_bad {rs : List Rec} {g tid at' : Int} (h : badB g tid at' = true) : bornE rs g tid at' = 1 := by unfold bornE; rw [if_pos h]
theorem born_taken {rs : List Rec} {g tid at' : Int} (h : badB g tid at' = false) (h2 : takenB rs tid at' = true) : bornE rs g tid at' = 7 := by unfold bornE; rw [if_neg (by simp [h]), if_pos h2]
theorem born_there {rs : List Rec} {g tid at' : Int} {r : Rec} (h : badB g tid at' = false) (h2 : takenB rs tid at' = false) (h3 : look rs g = some r) : bornE rs g tid at' = 7 := by unfold bornE; rw [if_neg (by simp [h]), if_neg (by simp [h2]), h3]; rfl
theorem born_ok {rs : List Rec} {g tid at' : Int} (h : badB g tid at' = false) (h2 : takenB rs tid at' = false) (h3 : look rs g = none) : bornE rs g tid at' = 0 := by unfold bornE; rw [if_neg (by simp [h]), if_neg (by simp [h2]), h3]; rfl

def BornPost (B b : Nat) (v : Value) (rs : List Rec) (g tid at' : Int) (w : World) (e : Ending) (w' : World) : Prop :=
  e = .returned (.int .i64 (bornE rs g tid at')) ∧ OthT 52 32 B b v w w' ∧
  ∃ v' rs', Tb B w' b v' rs' ∧ Srt rs' ∧ (bornE rs g tid at' = 0 → rs'.Perm (bornR g tid at' :: rs)) ∧ (bornE rs g tid at' ≠ 0 → rs' = rs)

theorem born_nil (g tid at' : Int) (w : World) : Calls Try.prog 17 #[.pointer none, .int .i64 g, .int .i64 tid, .int .i64 at'] w fun e w' => e = .returned (.int .i64 (if badB g tid at' then 1 else 7)) ∧ w = w' := by
  rcases bad_cases g tid at' with ⟨hv, h⟩ | ⟨hv, h1, h2, h3, h4⟩
  · rw [hv, if_pos rfl]
    clear hv
    rcases h with h1 | ⟨h1, h2⟩ | ⟨h1, h2, h3⟩ | ⟨h1, h2, h3, h4⟩ <;> (
      go_enter Try.func17, Try.ntmps17
      go_wp2_with fail
      go_ret
      exact ⟨rfl, rfl⟩)
  · rw [hv, if_neg (by decide)]
    clear hv
    go_enter Try.func17, Try.ntmps17
    go_wp2_with fail
    go_ret
    exact ⟨rfl, rfl⟩

/-! ### Where a record is put in -/
theorem gAt_take {rs : List Rec} {i t : Nat} (h : t < i) (hi : i ≤ rs.length) : gAt (rs.take i) t = gAt rs t := by
  unfold gAt
  rw [List.getD_eq_getElem?_getD, List.getD_eq_getElem?_getD, List.getElem?_take_of_lt h]
theorem gAt_ins {rs : List Rec} {r : Rec} {i : Nat} (hi : i ≤ rs.length) (t : Nat) : gAt (rs.take i ++ [r] ++ rs.drop i) t = if t < i then gAt rs t else if t = i then r.g else gAt rs (t - 1) := by
  unfold gAt
  have hl : (rs.take i).length = i := by rw [List.length_take, Nat.min_eq_left hi]
  simp only [List.getD_eq_getElem?_getD]
  rw [List.append_assoc]
  by_cases h1 : t < i
  · rw [List.getElem?_append_left (by omega), if_pos h1, List.getElem?_take_of_lt h1]
  · rw [List.getElem?_append_right (by omega), hl, if_neg h1]
    by_cases h2 : t = i
    · subst h2; simp
    · rw [if_neg h2, List.getElem?_append_right (by simp; omega), List.getElem?_drop]
      simp only [List.length_cons, List.length_nil]
      rw [show i + (t - i - (0 + 1)) = t - 1 by omega]
theorem srt_ins {rs : List Rec} {r : Rec} {i : Nat} (hs : Srt rs) (hi : i ≤ rs.length) (hb : ∀ t, t < i → gAt rs t < r.g) (ha : ∀ t, i ≤ t → t < rs.length → r.g < gAt rs t) : Srt (rs.take i ++ [r] ++ rs.drop i) := by
  intro a b hab hlt
  have hl : (rs.take i ++ [r] ++ rs.drop i).length = rs.length + 1 := by
    simp only [List.length_append, List.length_take, List.length_drop, List.length_cons, List.length_nil]; omega
  rw [hl] at hlt
  show gAt _ a < gAt _ b
  rw [gAt_ins hi, gAt_ins hi]
  split
  · rename_i h1
    split
    · exact hs a b hab (by omega)
    · split
      · exact hb a h1
      · have := hb a h1; have := ha (b - 1) (by omega) (by omega); omega
  · split
    · rw [if_neg (by omega), if_neg (by omega)]
      exact ha (b - 1) (by omega) (by omega)
    · rw [if_neg (by omega), if_neg (by omega)]
      exact hs (a - 1) (b - 1) (by omega) (by omega)
theorem perm_ins (rs : List Rec) (r : Rec) (i : Nat) : (rs.take i ++ [r] ++ rs.drop i).Perm (r :: rs) := by
  rw [List.append_assoc, List.singleton_append]
  exact List.perm_middle.trans (by rw [List.take_append_drop])

theorem insert_any (B b i : Nat) (v : Value) (rs : List Rec) (r : Rec) (w : World) (h : Tb B w b v rs) (hB : B ≤ w.heap.size) (hi : i ≤ rs.length) (hN : rs.length ≤ 1000) :
    Calls Try.prog 24 #[v, .int .i64 i, .slice (some ⟨w.heap.size, 0, none⟩) 1 1] (w.alloc (.cells (recL r).toArray 32)) (InsPost B v rs.length i rs r (w.alloc (.cells (recL r).toArray 32))) := by
  have hw : Below w.heap.size w (w.alloc (.cells (recL r).toArray 32)) := (Below.refl _ _).alloc (Nat.le_refl _) _
  have h' := h.below hw
  have hv := heap_alloc_new w (.cells (recL r).toArray 32)
  obtain ⟨g, cap, rfl, hg, hc⟩ := h.shape
  have hgw : g < w.heap.size := by
    rcases h.row.2 with ⟨he, _⟩ | ⟨g', cap', cur, he, _, hgg, _⟩
    · cases he
    · cases he; exact lt_of_heap hgg
  have hB' : B ≤ (w.alloc (.cells (recL r).toArray 32)).heap.size := by rw [size_alloc]; omega
  by_cases h1 : i = rs.length
  · subst h1
    exact insert_end B g cap rs.length w.heap.size rs r _ hB' rfl h.pos hN h'.row hv
  · by_cases h2 : rs.length + 1 ≤ cap
    · exact insert_shift B g cap rs.length i w.heap.size rs r _ hB' rfl (by omega) hN h2 (by omega) h'.row hv
    · exact insert_grow B g cap rs.length i w.heap.size rs r _ hB' rfl (by omega) hN (by omega) (by omega) h'.row hv

/-- A table whose slice is set anew. -/
theorem tb_put {B : Nat} {w w' : World} {b i : Nat} {v v' : Value} {rs : List Rec} {r : Rec} (h : Tb B w b v rs) (hB : B ≤ w.heap.size) (hi : i ≤ rs.length)
    (h1 : w'.ownsRow B 32 6 v' (rs.length + 1) (recs (rs.take i ++ [r] ++ rs.drop i))) (h2 : (w.alloc (.cells (recL r).toArray 32)).grownBy w' v.ownBlock) :
    w'.cell? ⟨b, 0, none⟩ = some v ∧ w'.frozen? ⟨b, 0, none⟩ = false ∧ Tb B (w'.setCell ⟨b, 0, none⟩ v') b v' (rs.take i ++ [r] ++ rs.drop i) ∧ OthT 52 32 B b v w (w'.setCell ⟨b, 0, none⟩ v') := by
  have hw : Below w.heap.size w (w.alloc (.cells (recL r).toArray 32)) := (Below.refl _ _).alloc (Nat.le_refl _) _
  have h' := h.below hw
  have kp : ∀ e, e ≠ 32 → KeepT e w w' := fun e he => (keepT_below hw).trans (keepT_grown h'.row h2 he)
  have hb := (kp 52 (by decide) _ _ _ h.blk).trans h.blk
  have hl : (rs.take i ++ [r] ++ rs.drop i).length = rs.length + 1 := by
    simp only [List.length_append, List.length_take, List.length_drop, List.length_cons, List.length_nil]; omega
  refine ⟨by simp only [World.cell?, hb]; rfl, by simp [World.frozen?, hb], ⟨heap_setCell_same w' b 0 _ _ v' hb, h.low, ?_, by omega⟩, ⟨?_, fun e e1 e2 => (kp e e2).trans (keepT_set hb e1), fun k hk h3 h4 => (heap_setCell_other w' ⟨b, 0, none⟩ k v' h3).trans ((h2.block k (by rw [size_alloc]; omega) h4).trans (hw.block k hk))⟩⟩
  · rw [hl]
    exact ownsRow_keep h1 (keepT_set (o := 0) (v := v') hb (by decide))
  · have b1 : Below B w (w.alloc (.cells (recL r).toArray 32)) := hw.mono hB
    exact (b1.grown h2 (by rw [size_alloc]; omega) (fun k hk => (h'.row.lt k hk).1)).setCell (by exact h.low) _

set_option maxHeartbeats 1000000 in
theorem born_any (B b : Nat) (v : Value) (rs : List Rec) (g tid at' : Int) (w : World) (h : Tb B w b v rs) (hB : B ≤ w.heap.size) (hs : Srt rs) (hN : rs.length ≤ 1000) :
    Calls Try.prog 17 #[.pointer (some ⟨b, 0, none⟩), .int .i64 g, .int .i64 tid, .int .i64 at'] w (BornPost B b v rs g tid at' w) := by
  have H := Lib.hid h
  have HS := Lib.hid hs
  clear h hs
  rcases bad_cases g tid at' with ⟨hv, h⟩ | ⟨hv, h1, h2, h3, h4⟩
  · have E := Lib.hid (born_bad (rs := rs) hv)
    have T := Lib.hid (show BornPost B b v rs g tid at' w (.returned (.int .i64 1)) w from ⟨by rw [E.out], OthT.refl _ _ _ _ _ _, v, rs, H.out, HS.out, fun h0 => absurd (E.out.symm.trans h0) (by decide), fun _ => rfl⟩)
    clear hv
    rcases h with h1 | ⟨h1, h2⟩ | ⟨h1, h2, h3⟩ | ⟨h1, h2, h3, h4⟩ <;> (
      go_enter Try.func17, Try.ntmps17
      go_wp2_with fail
      go_ret
      exact T.out)
  · have V := Lib.hid hv
    clear hv
    go_enter Try.func17, Try.ntmps17
    go_wp2_with fail
    refine (taken_any B b v rs tid at' w H.out hN).mono ?_
    rintro e w1 ⟨rfl, hb1⟩
    have H1 := Lib.hid (H.out.below hb1)
    have O1 := Lib.hid (OthT.below (t := 52) (r := 32) (b := b) (v := v) hb1 hB)
    have S1 := hb1.size
    clear hb1
    cases ht : takenB rs tid at' with
    | true =>
      have E := Lib.hid (born_taken V.out ht)
      have T := Lib.hid (show BornPost B b v rs g tid at' w (.returned (.int .i64 7)) w1 from ⟨by rw [E.out], O1.out, v, rs, H1.out, HS.out, fun h0 => absurd (E.out.symm.trans h0) (by decide), fun _ => rfl⟩)
      clear ht
      go_wp2_with fail
      go_ret
      exact T.out
    | false =>
      have TK := Lib.hid ht
      clear ht
      go_wp2_with fail
      refine (find_any B b v rs g w1 H1.out HS.out hN).mono ?_
      rintro e w2 ⟨i, rfl, hi, hlo, hhi, hb2⟩
      have F := Lib.hid (find_look hlo hhi HS.out)
      have H2 := Lib.hid (H1.out.below hb2)
      have O2 := Lib.hid (O1.out.trans (OthT.below hb2 (by omega)))
      have S2 := hb2.size
      clear hb2
      by_cases hx : i < rs.length ∧ gAt rs i = g
      · have e : decide (i < rs.length ∧ gAt rs i = g) = true := decide_eq_true hx
        rw [e]
        have E := Lib.hid (born_there V.out TK.out (F.out.1 hx))
        have T := Lib.hid (show BornPost B b v rs g tid at' w (.returned (.int .i64 7)) w2 from ⟨by rw [E.out], O2.out, v, rs, H2.out, HS.out, fun h0 => absurd (E.out.symm.trans h0) (by decide), fun _ => rfl⟩)
        clear e hx hlo hhi
        go_wp2_with fail
        go_ret
        exact T.out
      · have e : decide (i < rs.length ∧ gAt rs i = g) = false := decide_eq_false hx
        rw [e]
        have E := Lib.hid (born_ok V.out TK.out (F.out.2 hx))
        have SI := Lib.hid (srt_ins (r := bornR g tid at') HS.out hi hlo (fun t h1 h2 => by
          have h3 := hhi t h1 h2
          by_cases h4 : t = i
          · subst h4
            have : gAt rs t ≠ g := fun e => hx ⟨h2, e⟩
            show g < gAt rs t
            omega
          · have h5 := HS.out i t (by omega) h2
            have h6 := hhi i (Nat.le_refl _) (by omega)
            show g < gAt rs t
            unfold gAt at h6 ⊢
            omega))
        clear e hx hlo hhi
        have c0 := H2.out.c0
        go_wp2_with fail
        refine (insert_any B b i v rs (bornR g tid at') w2 H2.out (by omega) hi hN).mono ?_
        rintro e w3 ⟨v', rfl, hr1, hr2⟩
        obtain ⟨d0, f0, hT, hO⟩ := tb_put H2.out (by omega) hi hr1 hr2
        have T := Lib.hid (show BornPost B b v rs g tid at' w (.returned (.int .i64 0)) (w3.setCell ⟨b, 0, none⟩ v') from ⟨by rw [E.out], O2.out.trans hO, v', _, hT, SI.out, fun _ => perm_ins rs _ i, fun h0 => absurd E.out h0⟩)
        obtain ⟨ao, cp, rfl⟩ : ∃ ao cp, v' = .slice ao (rs.length + 1) cp := by
          rcases hr1.2 with ⟨hv, h0⟩ | ⟨g, cap, cur, hv, _⟩
          · omega
          · exact ⟨_, _, hv⟩
        clear hr1 hr2 hT hO
        go_wp2_with fail
        go_ret
        exact T.out
end Go.Proofs.Ytmhonibalgddcaa

