
/-
  RemapStays.
-/
import Derived.Test.YtmhonibalgddcaaRemO
namespace Go.Proofs.Ytmhonibalgddcaa
open Go.RowKit
set_option linter.unusedVariables false
set_option linter.unusedSimpArgs false
set_option maxRecDepth 100000
attribute [local go_sem ↓] run_eqRec

theorem ofOut_true {ps : List Rec} {g : Int} {r : Rec} (h : ofOut ps g = (r, true)) : look ps g = some r := by
  unfold ofOut at h
  cases hl : look ps g with
  | none => rw [hl] at h; cases h
  | some s => rw [hl] at h; cases h; rfl
theorem ofOut_some {ps : List Rec} {g : Int} {r : Rec} (h : look ps g = some r) : ofOut ps g = (r, true) := by unfold ofOut; rw [h]
theorem ofOut_grows {ps ps' : List Rec} {g : Int} {r r' : Rec} {is : Bool} (hg : Grows ps ps') (h : ofOut ps g = (r, true)) (h' : ofOut ps' g = (r', is)) : is = true ∧ r'.tid = r.tid ∧ r'.frm = r.frm ∧ (r.gone = true → r' = r) := by
  obtain ⟨s, hs, h1, h2, h3⟩ := hg g r (ofOut_true h)
  rw [ofOut_some hs] at h'
  cases h'
  exact ⟨rfl, h1, h2, h3⟩
theorem rec_cells {w : World} {k : Nat} {t : TypeId} {a0 a1 a2 a3 a4 a5 : Value} (h : w.heap[k]? = some (Obj.cells #[a0, a1, a2, a3, a4, a5] t (0, 0))) :
    w.cell? ⟨k, 0, none⟩ = some a0 ∧ w.cell? ⟨k, 1, none⟩ = some a1 ∧ w.cell? ⟨k, 2, none⟩ = some a2 ∧ w.cell? ⟨k, 3, none⟩ = some a3 ∧ w.cell? ⟨k, 4, none⟩ = some a4 ∧ w.cell? ⟨k, 5, none⟩ = some a5 := by
  refine ⟨?_, ?_, ?_, ?_, ?_, ?_⟩ <;> (simp only [World.cell?, h]; rfl)
theorem stp_cells {w : World} {k : Nat} {t : TypeId} {a0 a1 a2 a3 : Value} (h : w.heap[k]? = some (Obj.cells #[a0, a1, a2, a3] t (0, 0))) :
    w.cell? ⟨k, 0, none⟩ = some a0 ∧ w.cell? ⟨k, 1, none⟩ = some a1 ∧ w.cell? ⟨k, 2, none⟩ = some a2 ∧ w.cell? ⟨k, 3, none⟩ = some a3 := by
  refine ⟨?_, ?_, ?_, ?_⟩ <;> (simp only [World.cell?, h]; rfl)
theorem heap_push (w : World) (o : Obj) {n : Nat} (h : w.heap.size = n) : (w.alloc o).heap[n]? = some o := by subst h; exact heap_alloc_new w o
theorem bo_first {B : Nat} {w1 w2 : World} {b c : Nat} {v u : Value} (h1 : Tb B w1 b v [rec0]) (h2 : Rt B w2 c u [rec0]) (hB : Below w1.heap.size w1 w2) (hs : B ≤ w1.heap.size) : Bo B w2 b v c u [rec0] [rec0] :=
  ⟨h1.below hB, h2, srt_one _, List.Perm.refl _, Nat.le_trans hs hB.size, by intro r hr; simp at hr; subst hr; decide⟩
theorem mem_alloc {w : World} {o : Obj} {k : Nat} {x : Obj} (h : w.heap[k]? = some x) : (w.alloc o).heap[k]? = some x := (heap_alloc_old w _ (lt_of_heap h)).trans h

set_option maxHeartbeats 4000000 in
theorem stays_law (v : Value) (es : List Stp) (g : Int) (w : World) (h : StpsOf w v es) :
    Calls Try.prog 6 #[v, .int .i64 g] w fun e w' => e = .returned (.bool true) ∧ Below w.heap.size w w' := by
  obtain ⟨ao, cap, rfl, hc⟩ := h
  obtain ⟨n, hn⟩ : ∃ n, es.length = n := ⟨_, rfl⟩
  have HC := Lib.hid hc
  have HN := Lib.hid hn
  rw [hn]
  clear hc hn
  go_enter Try.func6, Try.ntmps6
  go_wp2_with fail
  refine (new_any w.heap.size w (Nat.le_refl _)).mono ?_
  rintro e w1 ⟨⟨b, v1, rfl, ht, hb⟩, hB1⟩
  have Q1 := Lib.hid ht
  have B1 := Lib.hid hB1
  clear ht hB1 hb
  by_cases hl : 200 < n
  · have hl' : (200 : Int) < (n : Int) := by omega
    go_wp2_with fail
    refine (turns_any w1).mono ?_
    rintro e w2 ⟨rfl, hb2⟩
    have B2 := Lib.hid (below_trans B1.out hb2 B1.out.size)
    clear hb2
    go_wp2_with fail
    go_ret
    exact ⟨rfl, B2.out⟩
  · have hl' : ¬ ((200 : Int) < (n : Int)) := by omega
    go_wp2_with fail
    refine (rnew_any w.heap.size w1 B1.out.size).mono ?_
    rintro e w2 ⟨⟨c, u1, rfl, hr, hc⟩, hB2⟩
    have H2 := Lib.hid (bo_first Q1.out hr hB2 B1.out.size)
    have B2 := Lib.hid (below_trans B1.out hB2 B1.out.size)
    clear hr hc hB2 Q1
    go_wp2_with fail
    go_loopw [29] (fun i wr => ∃ k : Nat, k ≤ n ∧ i = .int .i64 k ∧ (∃ v u ps rs, Bo w.heap.size wr b v c u ps rs ∧ rs.length ≤ k + 1) ∧ Below w.heap.size w wr) (fun i _ => n - (intOf i).toNat)
    case atStart => exact ⟨0, by omega, rfl, ⟨_, _, _, _, H2.out, by simp⟩, B2.out⟩
    case round =>
      obtain ⟨k, hk, rfl, ⟨v, u, ps, rs, hbo, hlen⟩, hb⟩ := hrel
      have BO := Lib.hid hbo
      have HB := Lib.hid hb
      have LEN : ps.length ≤ 999 := by have := hbo.perm.length_eq; omega
      have LEN2 := Lib.hid hlen
      clear hbo hb hlen H2 B2
      by_cases hlt : k < n
      · have hlt' : (k : Int) < (n : Int) := by omega
        obtain ⟨b', o, rfl, hcc⟩ := HC.out (by have := HN.out; omega)
        obtain ⟨c0, c1, c2, c3⟩ := (hcc k (by have := HN.out; omega)).below (Nat.le_refl _) HB.out
        obtain ⟨s, hs⟩ : ∃ s, es.getD k default = s := ⟨_, rfl⟩
        rw [hs] at c0 c1 c2 c3
        obtain ⟨wh, sg, sn, sa⟩ := s
        simp only at c0 c1 c2 c3
        clear hcc hs
        obtain ⟨W1, hW1⟩ : ∃ W1, wr.alloc (.cells #[.int .i64 wh, .int .i64 sg, .int .i64 sn, .int .i64 sa] 29) = W1 := ⟨_, rfl⟩
        have BW1 : Below wr.heap.size wr W1 := by rw [← hW1]; exact (Below.refl _ _).alloc (Nat.le_refl _) _
        have S1 := Lib.hid (show W1.heap[wr.heap.size]? = some (.cells #[.int .i64 wh, .int .i64 sg, .int .i64 sn, .int .i64 sa] 29 (0, 0)) from by rw [← hW1]; exact heap_alloc_new wr _)
        have BO1 := Lib.hid (BO.out.below BW1)
        have HB1 := Lib.hid (below_trans HB.out BW1 HB.out.size)
        have HW1 := Lib.hid hW1
        clear hW1 BW1
        go_wp2_with fail
        rw [HW1.out]
        refine (of_any w.heap.size b v ps g W1 BO1.out.tb BO1.out.srt (by omega)).mono ?_
        rintro e w3 ⟨rfl, hb3⟩
        have S3 := Lib.hid ((hb3.block _ (lt_of_heap S1.out)).trans S1.out)
        have BO3 := Lib.hid (BO1.out.below hb3)
        have HB3 := Lib.hid (below_trans HB1.out hb3 HB1.out.size)
        obtain ⟨X, hX⟩ : ∃ X, ofOut ps g = X := ⟨_, rfl⟩
        rw [hX]
        obtain ⟨⟨a0, a1, a2, a3, a4, a5⟩, was⟩ := X
        have OX := Lib.hid hX
        clear hX hb3 S1 BO1 HB1 HW1 c0 c1 c2 c3
        obtain ⟨W4, hW4⟩ : ∃ W4, w3.alloc (.cells #[.int .i64 a0, .int .i64 a1, .int .i64 a2, .bool a3, .int .i64 a4, .int .i64 a5] 32) = W4 := ⟨_, rfl⟩
        have BW4 : Below w3.heap.size w3 W4 := by rw [← hW4]; exact (Below.refl _ _).alloc (Nat.le_refl _) _
        obtain ⟨d0, d1, d2, d3⟩ := stp_cells ((BW4.block _ (lt_of_heap S3.out)).trans S3.out)
        rw [← hW4] at d0 d1 d2 d3
        have A4 := Lib.hid (show W4.heap[w3.heap.size]? = some (.cells #[.int .i64 a0, .int .i64 a1, .int .i64 a2, .bool a3, .int .i64 a4, .int .i64 a5] 32 (0, 0)) from by rw [← hW4]; exact heap_alloc_new w3 _)
        have BO4 := Lib.hid (BO3.out.below BW4)
        have HB4 := Lib.hid (below_trans HB3.out BW4 HB3.out.size)
        have HW4 := Lib.hid hW4
        clear hW4 BW4
        unfold recV
        go_wp2_with fail
        rw [HW4.out]
        refine (does_any w.heap.size b c v u ps rs ⟨wh, sg, sn, sa⟩ W4 BO4.out LEN).mono ?_
        rintro e w5 ⟨rfl, hm1, hm2, v', u', ps', rs', hbo, hlen, hgr⟩
        have A5 := Lib.hid (show w5.heap[w3.heap.size]? = some (.cells #[.int .i64 a0, .int .i64 a1, .int .i64 a2, .bool a3, .int .i64 a4, .int .i64 a5] 32 (0, 0)) from by
          obtain ⟨k1, k2, k3, k4⟩ := BO3.out.lt (Nat.le_refl _)
          exact (hm2 _ (lt_of_heap A4.out) k1 k2 k3 k4).trans A4.out)
        have BO5 := Lib.hid hbo
        have HB5 := Lib.hid (HB4.out.trans hm1)
        have LEN5 : ps'.length ≤ 1000 := by have := hbo.perm.length_eq; have := LEN2.out; omega
        have LN5 := Lib.hid (show rs'.length ≤ k + 1 + 1 from by have := LEN2.out; omega)
        have GR := Lib.hid hgr
        clear hm1 hm2 hbo hlen hgr d0 d1 d2 d3 A4 BO4 HB4 HW4 BO3 HB3 S3
        go_wp2_with fail
        refine (of_any w.heap.size b v' ps' g w5 BO5.out.tb BO5.out.srt LEN5).mono ?_
        rintro e w6 ⟨rfl, hb6⟩
        obtain ⟨X, hX⟩ : ∃ X, ofOut ps' g = X := ⟨_, rfl⟩
        rw [hX]
        obtain ⟨⟨b0, b1, b2, b3, b4, b5⟩, is⟩ := X
        have T := Lib.hid (show was = true → is = true ∧ b1 = a1 ∧ b2 = a2 ∧ (a3 = true → (⟨b0, b1, b2, b3, b4, b5⟩ : Rec) = ⟨a0, a1, a2, a3, a4, a5⟩) from fun e => by
          have hO := OX.out
          subst e
          exact ofOut_grows GR.out hO hX)
        have FX := Lib.hid (show ∀ X, (∃ v u ps rs, Bo w.heap.size (w6.alloc X) b v c u ps rs ∧ rs.length ≤ k + 1 + 1) ∧ Below w.heap.size w (w6.alloc X) from fun X => by
          have hx : Below w6.heap.size w6 (w6.alloc X) := (Below.refl _ _).alloc (Nat.le_refl _) _
          exact ⟨⟨_, _, _, _, (BO5.out.below hb6).below hx, LN5.out⟩, below_trans (below_trans HB5.out hb6 HB5.out.size) hx (Nat.le_trans HB5.out.size hb6.size)⟩)
        have A6 : ∀ X, (w6.alloc X).heap[w3.heap.size]? = some (.cells #[.int .i64 a0, .int .i64 a1, .int .i64 a2, .bool a3, .int .i64 a4, .int .i64 a5] 32 (0, 0)) := fun X => mem_alloc ((hb6.block _ (lt_of_heap A5.out)).trans A5.out)
        have d0 := fun X => (rec_cells (A6 X)).1
        have d1 := fun X => (rec_cells (A6 X)).2.1
        have d2 := fun X => (rec_cells (A6 X)).2.2.1
        have d3 := fun X => (rec_cells (A6 X)).2.2.2.1
        have d4 := fun X => (rec_cells (A6 X)).2.2.2.2.1
        have d5 := fun X => (rec_cells (A6 X)).2.2.2.2.2
        clear hX hb6 A6 A5 BO5 HB5 LN5 GR
        unfold recV
        dsimp only
        cases was with
        | false =>
          go_wp2_with fail
          go_roundw
          case rel => exact ⟨k + 1, by omega, by go_num, (FX.out _).1, (FX.out _).2⟩
          case measure => simp [intOf] <;> omega
        | true =>
          obtain ⟨t1, t2, t3, t4⟩ := T.out rfl
          subst t1 t2 t3
          cases a3 with
          | false =>
            clear t4
            go_wp2_with fail
            go_roundw
            case rel => exact ⟨k + 1, by omega, by go_num, (FX.out _).1, (FX.out _).2⟩
            case measure => simp [intOf] <;> omega
          | true =>
            have t5 := t4 rfl
            injection t5 with x0 x1 x2 x3 x4 x5
            subst x0 x3 x4 x5
            have eq : ∀ r, recEq r r = true := fun r => by rw [recEq_iff]; simp
            clear t4 x1 x2
            go_wp2_with fail
            go_roundw
            case rel => exact ⟨k + 1, by omega, by go_num, (FX.out _).1, (FX.out _).2⟩
            case measure => simp [intOf] <;> omega
      · have hge : (n : Int) ≤ k := by omega
        clear hlt
        go_wp2_with fail
        refine (turns_any wr).mono ?_
        rintro e w4 ⟨rfl, hb4⟩
        have B4 := Lib.hid (below_trans HB.out hb4 HB.out.size)
        clear hb4
        go_wp2_with fail
        go_ret
        exact ⟨rfl, B4.out⟩
end Go.Proofs.Ytmhonibalgddcaa

