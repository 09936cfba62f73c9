
/-
  Package report: a report's parts; New.
-/
import Derived.Test.YtkcnbkdpjlpppaaRptC
import Derived.Test.YtkcnbkdpjlpppaaKeep
namespace Go.Proofs.Ytkcnbkdpjlpppaa
open Go.RowKit
set_option linter.unusedVariables false
set_option linter.unusedSimpArgs false
set_option maxRecDepth 100000

theorem keepT_celR {e : TypeId} {B : Nat} {w w' : World} {b : Nat} {x : Int} {l : List Int} {tl : Bool} (h : Ce B w b x l tl) (ht : Turned (fun i => i = b) w w') (hne : e ≠ 97) : KeepT e w w' := fun i cur fz hi => by
  refine ht.block i (lt_of_heap hi) ?_
  rintro rfl
  obtain ⟨⟨v, h1⟩, _⟩ := h
  rw [h1.blk] at hi
  have := Option.some.inj hi
  injection this with e1 e2
  exact hne e2.symm
theorem ceKeep {B : Nat} {w w' : World} {b : Nat} {x : Int} {l : List Int} {tl : Bool} (h : Ce B w b x l tl) (h1 : KeepT 97 w w') (h2 : KeepT 25 w w') (hs : w.heap.size ≤ w'.heap.size) : Ce B w' b x l tl := by
  obtain ⟨⟨v, k1⟩, k2, k3⟩ := h
  exact ⟨⟨v, ⟨(h1 b _ _ k1.blk).trans k1.blk, k1.low, ownsRow_keep k1.row h2⟩⟩, k2, Nat.le_trans k3 hs⟩
theorem ceOther {B : Nat} {w w' : World} {b c : Nat} {x y : Int} {l m : List Int} {tl ul : Bool} (h : Ce B w b x l tl) (hc : Ce B w c y m ul) (hne : b ≠ c) (ht : Turned (fun i => i = c) w w') : Ce B w' b x l tl := by
  obtain ⟨⟨v, k1⟩, k2, k3⟩ := h
  exact ⟨⟨v, ⟨(ht.block b k1.lt hne).trans k1.blk, k1.low, ownsRow_keep k1.row (keepT_celR hc ht (by decide))⟩⟩, k2, Nat.le_trans k3 ht.size⟩
structure Cel where
  b : Nat
  x : Int
  l : List Int
  tl : Bool
/-- The nine cells: k of the eight places are laid. -/
def pt (cs : Nat → Cel) (k i : Nat) : Value := if i < k then .pointer (some ⟨(cs i).b, 0, none⟩) else .pointer none
def rpV (cs : Nat → Cel) (k mb : Nat) : Array Value := #[pt cs k 0, pt cs k 1, pt cs k 2, pt cs k 3, pt cs k 4, pt cs k 5, pt cs k 6, pt cs k 7, .map (some mb)]
structure Rp (B : Nat) (w : World) (b mb n k : Nat) (M : Int → Option Rce) (cs : Nat → Cel) : Prop where
  blk : w.heap[b]? = some (.cells (rpV cs k mb) 81 (0, 0))
  ce : ∀ i, i < k → Ce B w (cs i).b (cs i).x (cs i).l (cs i).tl
  ap : ∀ i j, i < k → j < k → i ≠ j → (cs i).b ≠ (cs j).b
  mp : RMap w mb n M
  low : B ≤ b ∧ B ≤ mb ∧ B ≤ w.heap.size
theorem Rp.below {B : Nat} {w w' : World} {b mb n k : Nat} {M : Int → Option Rce} {cs : Nat → Cel} (h : Rp B w b mb n k M cs) (hB : Below w.heap.size w w') : Rp B w' b mb n k M cs :=
  ⟨(hB.block b (lt_of_heap h.blk)).trans h.blk, fun i hi => (h.ce i hi).below hB, h.ap, h.mp.kept (hB.block mb h.mp.lt), h.low.1, h.low.2.1, Nat.le_trans h.low.2.2 hB.size⟩
theorem rpV_set (cs : Nat → Cel) {k mb : Nat} (hk : k < 8) (c : Cel) : (rpV cs k mb).setIfInBounds k (.pointer (some ⟨c.b, 0, none⟩)) = rpV (fun i => if i = k then c else cs i) (k + 1) mb := by
  match k, hk with
  | 0, _ => rfl
  | 1, _ => rfl
  | 2, _ => rfl
  | 3, _ => rfl
  | 4, _ => rfl
  | 5, _ => rfl
  | 6, _ => rfl
  | 7, _ => rfl
theorem rpV_at (cs : Nat → Cel) {k mb i : Nat} (hk : i < k) (hi : i < 8) : (rpV cs k mb)[i]? = some (.pointer (some ⟨(cs i).b, 0, none⟩)) := by
  have e : ∀ j, j < k → pt cs k j = .pointer (some ⟨(cs j).b, 0, none⟩) := fun j hj => by unfold pt; rw [if_pos hj]
  match i, hi with
  | 0, _ => rw [← e 0 hk]; rfl
  | 1, _ => rw [← e 1 hk]; rfl
  | 2, _ => rw [← e 2 hk]; rfl
  | 3, _ => rw [← e 3 hk]; rfl
  | 4, _ => rw [← e 4 hk]; rfl
  | 5, _ => rw [← e 5 hk]; rfl
  | 6, _ => rw [← e 6 hk]; rfl
  | 7, _ => rw [← e 7 hk]; rfl
theorem rpV_next (cs : Nat → Cel) {k mb : Nat} (hk : k < 8) : (rpV cs k mb)[k]? = some (.pointer none) := by
  have e : pt cs k k = .pointer none := by unfold pt; rw [if_neg (by omega)]
  match k, hk with
  | 0, _ => rw [← e]; rfl
  | 1, _ => rw [← e]; rfl
  | 2, _ => rw [← e]; rfl
  | 3, _ => rw [← e]; rfl
  | 4, _ => rw [← e]; rfl
  | 5, _ => rw [← e]; rfl
  | 6, _ => rw [← e]; rfl
  | 7, _ => rw [← e]; rfl
/-- One more cell is laid. -/
theorem Rp.lay {B : Nat} {w w' : World} {b mb n k c : Nat} {M : Int → Option Rce} {cs : Nat → Cel} (h : Rp B w b mb n k M cs) (hk : k < 8) (hb : Below w.heap.size w w') (hc : Ce B w' c 0 [] false) (hcw : w.heap.size ≤ c) :
    Rp B (w'.setCell ⟨b, k, none⟩ (.pointer (some ⟨c, 0, none⟩))) b mb n (k + 1) M (fun i => if i = k then ⟨c, 0, [], false⟩ else cs i) := by
  have h' := h.below hb
  have lb := lt_of_heap h.blk
  have kt : ∀ e, e ≠ 81 → KeepT e w' (w'.setCell ⟨b, k, none⟩ (.pointer (some ⟨c, 0, none⟩))) := fun e he => keepT_set h'.blk he
  refine ⟨?_, fun i hi => ?_, fun i j hi hj hne => ?_, h'.mp.kept (heap_setCell_other _ _ _ _ ?_), h.low.1, h.low.2.1, by simpa using h'.low.2.2⟩
  · rw [← rpV_set cs hk ⟨c, 0, [], false⟩]
    exact heap_setCell_same w' b k _ _ _ h'.blk
  · by_cases hik : i = k
    · subst hik
      simp only [if_true]
      exact ceKeep hc (kt _ (by decide)) (kt _ (by decide)) (by simp)
    · simp only [if_neg hik]
      exact ceKeep (h'.ce i (by omega)) (kt _ (by decide)) (kt _ (by decide)) (by simp)
  · have low : ∀ i, i < k → (cs i).b < w.heap.size := fun i hi => (h.ce i hi).low.2
    by_cases hik : i = k
    · subst hik
      have : j < i := by omega
      have := low j this
      simp only [if_true, if_neg (show ¬ j = i by omega)]
      omega
    · by_cases hjk : j = k
      · subst hjk
        have := low i (by omega)
        simp only [if_true, if_neg hik]
        omega
      · simp only [if_neg hik, if_neg hjk]
        exact h.ap i j (by omega) (by omega) hne
  · obtain ⟨D, ⟨es, clock, hm, _⟩, _⟩ := h.mp
    intro e
    have e' : mb = b := e
    subst e'
    rw [h.blk] at hm
    cases hm
theorem info_rp : (Try.prog.info? 81).map (fun i => (i.zero, i.size)) = some (some (.agg #[.pointer none, .pointer none, .pointer none, .pointer none, .pointer none, .pointer none, .pointer none, .pointer none, .map none]), 9) := by kernel_rfl
theorem rep_new (B : Nat) (w : World) (hB : B ≤ w.heap.size) : Calls Try.prog 14 #[] w fun r w' => (∃ b mb cs, r = .returned (.pointer (some ⟨b, 0, none⟩)) ∧ Rp B w' b mb 0 8 (fun _ => none) cs ∧ (∀ i, i < 8 → (cs i).x = 0 ∧ (cs i).l = [] ∧ (cs i).tl = false)) ∧ Below w.heap.size w w' := by
  have hmm := @run_makeMap Try.prog
  obtain ⟨W2, hW2⟩ : ∃ W, (w.alloc (.map #[] 0)).alloc (.cells #[.pointer none, .pointer none, .pointer none, .pointer none, .pointer none, .pointer none, .pointer none, .pointer none, .map (some w.heap.size)] 81) = W := ⟨_, rfl⟩
  have hb1 : Below w.heap.size w (w.alloc (.map #[] 0)) := (Below.refl _ _).alloc (Nat.le_refl _) _
  have hs1 : (w.alloc (.map #[] 0)).heap.size = w.heap.size + 1 := size_alloc _ _
  have hb2 : Below (w.alloc (.map #[] 0)).heap.size (w.alloc (.map #[] 0)) W2 := by rw [← hW2]; exact (Below.refl _ _).alloc (Nat.le_refl _) _
  have hm := rmap_made w
  have hblk : W2.heap[w.heap.size + 1]? = some (.cells (rpV (fun _ => ⟨0, 0, [], false⟩) 0 w.heap.size) 81 (0, 0)) := by
    rw [← hW2, ← hs1]; exact heap_alloc_new _ _
  have R2 := Lib.hid (show Rp B W2 (w.heap.size + 1) w.heap.size 0 0 (fun _ => none) (fun _ => ⟨0, 0, [], false⟩) from ⟨hblk, fun i hi => by omega, fun i j hi => by omega, hm.kept (hb2.block _ hm.lt), by omega, hB, Nat.le_trans hB (Nat.le_trans hb1.size hb2.size)⟩)
  have B2 := Lib.hid (below_trans hb1 hb2 hb1.size)
  obtain ⟨b, hbb⟩ : ∃ b, w.heap.size + 1 = b := ⟨_, rfl⟩
  obtain ⟨mb, hmb⟩ : ∃ mb, w.heap.size = mb := ⟨_, rfl⟩
  have LB := Lib.hid (show w.heap.size ≤ b from by omega)
  rw [hbb, hmb] at R2
  have HW2 := Lib.hid hW2
  have HB := Lib.hid hbb
  have HB0 := Lib.hid hB
  clear hW2 hb1 hb2 hm hbb hmb hs1 hblk hB
  go_enter Try.func14, Try.ntmps14
  go_upto_region 2 with fail
  rw [HW2.out, HB.out]
  clear hmm
  go_wp2_with fail
  go_loopw [6] (fun i wr => ∃ (k : Nat) (cs : Nat → Cel), k ≤ 8 ∧ i = .int .i64 k ∧ Rp B wr b mb 0 k (fun _ => none) cs ∧ (∀ i, i < k → (cs i).x = 0 ∧ (cs i).l = [] ∧ (cs i).tl = false) ∧ Below w.heap.size w wr) (fun i _ => 8 - (intOf i).toNat)
  case atStart => exact ⟨0, _, by omega, rfl, R2.out, fun i hi => by omega, B2.out⟩
  case round =>
    obtain ⟨k, cs, hk, rfl, hr, hcs, hb⟩ := hrel
    have HR := Lib.hid hr
    have HC := Lib.hid hcs
    have BB := Lib.hid hb
    clear hr hcs hb
    by_cases hlt : k < 8
    · have hlt' : (k : Int) < 8 := by omega
      have NW := Lib.hid (ce_new B wr.drew HR.out.low.2.2)
      go_wp2_with fail
      go_region_held3 (fun _ => True) (exact True.intro)
        (first | (go_at_call 28; (with_reducible refine NW.out.mono ?_); rintro r w2 ⟨⟨c, rfl, hc, hcw⟩, hb2⟩; have f0 : w2.frozen? ⟨b, k, none⟩ = false := (by have := (HR.out.below (below_drew hb2)).blk; simp [World.frozen?, this]); have hcell : w2.cell? ⟨b, k, none⟩ = some (.pointer none) := (by have := (HR.out.below (below_drew hb2)).blk; simp only [World.cell?, this]; exact rpV_next cs hlt); have HCE := Lib.hid hc; have B2 := Lib.hid hb2; clear hc hb2))
      have NR := Lib.hid (HR.out.lay hlt (below_drew B2.out) HCE.out hcw)
      have B3 := Lib.hid (show Below w.heap.size w (w2.setCell ⟨b, k, none⟩ (.pointer (some ⟨c, 0, none⟩))) from (below_trans BB.out (below_drew B2.out) BB.out.size).setCell (p := ⟨b, k, none⟩) LB.out _)
      go_wp2_with fail
      go_roundw
      case rel => exact ⟨k + 1, _, by omega, by go_num, NR.out, fun i hi => by
        by_cases hik : i = k
        · simp [hik]
        · simp only [if_neg hik]; exact HC.out i (by omega), B3.out⟩
      case measure => simp [intOf] <;> omega
    · have hge : (8 : Int) ≤ k := by omega
      have hk8 : k = 8 := by omega
      have R8 := Lib.hid (show Rp B wr b mb 0 8 (fun _ => none) cs ∧ (∀ i, i < 8 → (cs i).x = 0 ∧ (cs i).l = [] ∧ (cs i).tl = false) from by rw [← hk8]; exact ⟨HR.out, HC.out⟩)
      go_wp2_with fail
      go_ret
      exact ⟨⟨b, mb, cs, rfl, R8.out.1, R8.out.2⟩, BB.out⟩
end Go.Proofs.Ytkcnbkdpjlpppaa

