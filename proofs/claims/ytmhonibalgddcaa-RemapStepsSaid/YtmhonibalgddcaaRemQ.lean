
/-
  RemapSteps.
-/
import Derived.Test.YtmhonibalgddcaaRemP
import Derived.Deep.DeepCutAuto
namespace Go.Proofs.Ytmhonibalgddcaa
open Go.RowKit
set_option linter.unusedVariables false
set_option linter.unusedSimpArgs false
set_option maxRecDepth 100000

theorem run_eqRR (a0 a1 a2 a4 a5 b0 b1 b2 b4 b5 : Int) (a3 b3 : Bool) (w : World) :
    (Op.equalIn 10000 36 (.agg #[.int .i64 a0, .int .i64 a1, .int .i64 a2, .bool a3, .int .i64 a4, .int .i64 a5]) (.agg #[.int .i64 b0, .int .i64 b1, .int .i64 b2, .bool b3, .int .i64 b4, .int .i64 b5])).run Try.prog w = .ok (recEq ⟨a0, a1, a2, a3, a4, a5⟩ ⟨b0, b1, b2, b3, b4, b5⟩) w := by
  unfold recEq
  dsimp only
  cases h0 : (a0 == b0)
  · go_simp
  cases h1 : (a1 == b1)
  · go_simp
  cases h2 : (a2 == b2)
  · go_simp
  cases h3 : (a3 == b3)
  · go_simp
  cases h4 : (a4 == b4)
  · go_simp
  cases h5 : (a5 == b5)
  · go_simp
  · go_simp
theorem recEq_self (r : Rec) : recEq r r = true := by rw [recEq_iff]; simp
@[local go_sem ↓ high] theorem run_eqRR_self (a0 a1 a2 a4 a5 : Int) (a3 : Bool) (w : World) :
    (Op.equalIn 10000 36 (.agg #[.int .i64 a0, .int .i64 a1, .int .i64 a2, .bool a3, .int .i64 a4, .int .i64 a5]) (.agg #[.int .i64 a0, .int .i64 a1, .int .i64 a2, .bool a3, .int .i64 a4, .int .i64 a5])).run Try.prog w = .ok true w := by
  rw [run_eqRR, recEq_self]
@[local go_sem ↓ high] theorem run_eqRec_self (a0 a1 a2 a4 a5 : Int) (a3 : Bool) (w : World) :
    (Op.equalIn 10000 32 (.agg #[.int .i64 a0, .int .i64 a1, .int .i64 a2, .bool a3, .int .i64 a4, .int .i64 a5]) (.agg #[.int .i64 a0, .int .i64 a1, .int .i64 a2, .bool a3, .int .i64 a4, .int .i64 a5])).run Try.prog w = .ok true w := by
  rw [run_eqRec, recEq_self]

theorem of_at {ps rs : List Rec} (h : Srt ps) (hp : ps.Perm rs) (g : Int) :
    (∃ i r, i < rs.length ∧ atI rs g = (i : Nat) ∧ rs.getD i default = r ∧ ofOut ps g = (r, true)) ∨ (atI rs g = -1 ∧ ofOut ps g = (⟨0, 0, 0, false, 0, 0⟩, false)) := by
  have e := look_perm hp (nd_of_srt h) g
  rcases at_cases rs g with ⟨i, h1, h2, h3, h4⟩ | ⟨h1, h2⟩
  · exact .inl ⟨i, _, h1, h2, rfl, ofOut_some (e.trans h4)⟩
  · refine .inr ⟨h1, ?_⟩
    unfold ofOut
    rw [e, h2]
    rfl
theorem own_at {ps rs : List Rec} (h : Srt ps) (hp : ps.Perm rs) {tid at' g : Int} (ho : ownOut ps tid at' = (g, true)) :
    ∃ i r, i < rs.length ∧ atI rs g = (i : Nat) ∧ rs.getD i default = r ∧ hasB r tid at' = true := by
  obtain ⟨r, h1, h2, h3⟩ := own_mem ho
  have hl : look ps g = some r := (look_iff (nd_of_srt h)).2 ⟨h1, h2⟩
  have e := look_perm hp (nd_of_srt h) g
  rcases at_cases rs g with ⟨i, k1, k2, k3, k4⟩ | ⟨k1, k2⟩
  · rw [hl, k4] at e
    cases e
    exact ⟨i, _, k1, k2, rfl, h3⟩
  · rw [hl, k2] at e; cases e
theorem hasAny_snoc {rs : List Rec} {tid at' : Int} {k : Nat} (hk : k < rs.length) : hasAny (rs.take (k + 1)) tid at' = (hasAny (rs.take k) tid at' || hasB (rs.getD k default) tid at') := by
  unfold hasAny
  rw [List.take_add_one, List.any_append, List.getD_eq_getElem?_getD, List.getElem?_eq_getElem hk]
  simp
/-- Of a record of the one table: where it is in the other. -/
theorem here_at {ps rs : List Rec} (h : Srt ps) (hp : ps.Perm rs) {j : Nat} (hj : j < ps.length) : ∃ i, i < rs.length ∧ atI rs (gAt ps j) = (i : Nat) ∧ rs.getD i default = ps.getD j default := by
  have hl : look ps (gAt ps j) = some (ps.getD j default) := (look_iff (nd_of_srt h)).2 ⟨by rw [List.getD_eq_getElem?_getD, List.getElem?_eq_getElem hj]; exact List.getElem_mem _, rfl⟩
  have e := look_perm hp (nd_of_srt h) (gAt ps j)
  rcases at_cases rs (gAt ps j) with ⟨i, k1, k2, k3, k4⟩ | ⟨k1, k2⟩
  · rw [hl, k4] at e
    injection e with e
    exact ⟨i, k1, k2, e.symm⟩
  · rw [hl, k2] at e; cases e
def lastG (ps : List Rec) : Nat → Int
  | 0 => -1
  | j + 1 => gAt ps j
theorem last_lt {ps : List Rec} (h : Srt ps) (hn : ∀ r, r ∈ ps → 0 ≤ r.g) {j : Nat} (hj : j < ps.length) : lastG ps j < gAt ps j := by
  cases j with
  | zero =>
    have : 0 ≤ gAt ps 0 := hn _ (by rw [List.getD_eq_getElem?_getD, List.getElem?_eq_getElem hj]; exact List.getElem_mem _)
    show (-1 : Int) < _
    omega
  | succ j => exact h j (j + 1) (by omega) hj

/-- The cells of a table and of one of its records. -/
theorem Rt.cells {B : Nat} {w : World} {b : Nat} {v : Value} {rs : List Rec} (h : Rt B w b v rs) : ∃ g cap, v = .slice (some ⟨g, 0, none⟩) rs.length cap ∧ w.cell? ⟨b, 0, none⟩ = some (.slice (some ⟨g, 0, none⟩) rs.length cap) ∧ ∀ i, i < rs.length → RecAt w g (i * 6) (rs.getD i default) := by
  obtain ⟨g, cap, rfl, _, _⟩ := h.shape
  exact ⟨g, cap, rfl, h.c0, fun i hi => h.at i hi⟩
theorem below_drew {w w' : World} (h : Below w.drew.heap.size w.drew w') : Below w.heap.size w w' := ⟨h.os, h.tape, h.output, h.size, h.block⟩

set_option maxHeartbeats 8000000 in
theorem steps_law (v : Value) (es : List Stp) (tid at' : Int) (w : World) (h : StpsOf w v es) :
    Calls Try.prog 3 #[v, .int .i64 tid, .int .i64 at'] w fun e w' => e = .returned (.bool true) ∧ Below w.heap.size w w' := by
  obtain ⟨ao, cap, rfl, hc⟩ := h
  obtain ⟨n, hn⟩ : ∃ n, es.length = n := ⟨_, rfl⟩
  have HC := Lib.hid hc
  have HN := Lib.hid hn
  rw [hn]
  clear hc hn
  go_enter Try.func3, Try.ntmps3
  go_wp2_with fail
  refine (new_any w.heap.size w (Nat.le_refl _)).mono ?_
  rintro e w1 ⟨⟨b, v1, rfl, ht, hb⟩, hB1⟩
  have Q1 := Lib.hid ht
  have B1 := Lib.hid hB1
  clear ht hB1 hb
  by_cases hl : 200 < n
  · have hl' : (200 : Int) < (n : Int) := by omega
    go_wp2_with fail
    refine (turns_any w1).mono ?_
    rintro e w2 ⟨rfl, hb2⟩
    have B2 := Lib.hid (below_trans B1.out hb2 B1.out.size)
    clear hb2
    go_wp2_with fail
    go_ret
    exact ⟨rfl, B2.out⟩
  · have hl' : ¬ ((200 : Int) < (n : Int)) := by omega
    go_wp2_with fail
    refine (rnew_any w.heap.size w1 B1.out.size).mono ?_
    rintro e w2 ⟨⟨c, u1, rfl, hr, hc⟩, hB2⟩
    have H2 := Lib.hid (bo_first Q1.out hr hB2 B1.out.size)
    have B2 := Lib.hid (below_trans B1.out hB2 B1.out.size)
    clear hr hc hB2 Q1
    go_wp2_with fail
    go_loopw [38] (fun i wr => ∃ k : Nat, k ≤ n ∧ i = .int .i64 k ∧ (∃ v u ps rs, Bo w.heap.size wr b v c u ps rs ∧ rs.length ≤ k + 1) ∧ Below w.heap.size w wr) (fun i _ => n - (intOf i).toNat)
    case atStart => exact ⟨0, by omega, rfl, ⟨_, _, _, _, H2.out, by simp⟩, B2.out⟩
    case round =>
      obtain ⟨k, hk, rfl, ⟨v, u, ps, rs, hbo, hlen⟩, hb⟩ := hrel
      have BO := Lib.hid hbo
      have HB := Lib.hid hb
      have LEN : ps.length ≤ 999 := by have := hbo.perm.length_eq; omega
      have LEN2 := Lib.hid hlen
      clear hbo hb hlen H2 B2
      by_cases hlt : k < n
      · have hlt' : (k : Int) < (n : Int) := by omega
        obtain ⟨b', o, rfl, hcc⟩ := HC.out (by have := HN.out; omega)
        obtain ⟨c0, c1, c2, c3⟩ := (hcc k (by have := HN.out; omega)).below (Nat.le_refl _) HB.out
        obtain ⟨s, hs⟩ : ∃ s, es.getD k default = s := ⟨_, rfl⟩
        rw [hs] at c0 c1 c2 c3
        obtain ⟨wh, sg, sn, sa⟩ := s
        simp only at c0 c1 c2 c3
        clear hcc hs
        obtain ⟨W1, hW1⟩ : ∃ W1, wr.alloc (.cells #[.int .i64 wh, .int .i64 sg, .int .i64 sn, .int .i64 sa] 29) = W1 := ⟨_, rfl⟩
        have BW1 : Below wr.heap.size wr W1 := by rw [← hW1]; exact (Below.refl _ _).alloc (Nat.le_refl _) _
        have S1 := Lib.hid (show W1.heap[wr.heap.size]? = some (.cells #[.int .i64 wh, .int .i64 sg, .int .i64 sn, .int .i64 sa] 29 (0, 0)) from by rw [← hW1]; exact heap_alloc_new wr _)
        have BO1 := Lib.hid (BO.out.below BW1)
        have HB1 := Lib.hid (below_trans HB.out BW1 HB.out.size)
        have HW1 := Lib.hid hW1
        clear hW1 BW1
        go_wp2_with fail
        rw [HW1.out]
        refine (does_any w.heap.size b c v u ps rs ⟨wh, sg, sn, sa⟩ W1 BO1.out LEN).mono ?_
        rintro e w5 ⟨rfl, hm1, hm2, v', u', ps', rs', hbo, hlen, hgr⟩
        have S5 := Lib.hid (show w5.heap[wr.heap.size]? = some (.cells #[.int .i64 wh, .int .i64 sg, .int .i64 sn, .int .i64 sa] 29 (0, 0)) from by
          obtain ⟨k1, k2, k3, k4⟩ := BO.out.lt (Nat.le_refl _)
          exact (hm2 _ (lt_of_heap S1.out) k1 k2 k3 k4).trans S1.out)
        have BO5 := Lib.hid hbo
        have HB5 := Lib.hid (HB1.out.trans hm1)
        have LEN5 : ps'.length ≤ 1000 := by have := hbo.perm.length_eq; have := LEN2.out; omega
        have LN5 := Lib.hid (show rs'.length ≤ k + 1 + 1 from by have := LEN2.out; omega)
        obtain ⟨d0, d1, d2, d3⟩ := stp_cells S5.out
        clear hm1 hm2 hbo hlen hgr S1 BO1 HB1 HW1 BO HB LEN LEN2 c0 c1 c2 c3
        go_wp2_with fail
        refine (of_any w.heap.size b v' ps' sg w5 BO5.out.tb BO5.out.srt LEN5).mono ?_
        rintro e w6 ⟨rfl, hb6⟩
        obtain ⟨X, hX⟩ : ∃ X, ofOut ps' sg = X := ⟨_, rfl⟩
        rw [hX]
        obtain ⟨⟨a0, a1, a2, a3, a4, a5⟩, was⟩ := X
        obtain ⟨W7, hW7⟩ : ∃ W7, w6.alloc (.cells #[.int .i64 a0, .int .i64 a1, .int .i64 a2, .bool a3, .int .i64 a4, .int .i64 a5] 32) = W7 := ⟨_, rfl⟩
        have BW7 : Below w6.heap.size w6 W7 := by rw [← hW7]; exact (Below.refl _ _).alloc (Nat.le_refl _) _
        have A7 := Lib.hid (show W7.heap[w6.heap.size]? = some (.cells #[.int .i64 a0, .int .i64 a1, .int .i64 a2, .bool a3, .int .i64 a4, .int .i64 a5] 32 (0, 0)) from by rw [← hW7]; exact heap_alloc_new w6 _)
        have BO7 := Lib.hid ((BO5.out.below hb6).below BW7)
        have HB7 := Lib.hid (below_trans (below_trans HB5.out hb6 HB5.out.size) BW7 (Nat.le_trans HB5.out.size hb6.size))
        have OA := Lib.hid (of_at BO5.out.srt BO5.out.perm sg)
        have OX := Lib.hid hX
        obtain ⟨e0, e1, e2, e3⟩ := stp_cells ((BW7.block _ (Nat.lt_of_lt_of_le (lt_of_heap S5.out) hb6.size)).trans ((hb6.block _ (lt_of_heap S5.out)).trans S5.out))
        rw [← hW7] at e0 e1 e2 e3
        have HW7 := Lib.hid hW7
        clear hX hW7 BW7 hb6 d0 d1 d2 d3 S5 HB5
        unfold recV
        go_wp2_with fail
        rw [HW7.out]
        refine (rat_any w.heap.size c u' rs' sg W7 BO7.out.rt (by have := BO7.out.perm.length_eq; omega)).mono ?_
        rintro e w8 ⟨rfl, hb8⟩
        have A8 := Lib.hid ((hb8.block _ (lt_of_heap A7.out)).trans A7.out)
        have BO8 := Lib.hid (BO7.out.below hb8)
        have HB8 := Lib.hid (below_trans HB7.out hb8 HB7.out.size)
        clear hb8 e0 e1 e2 e3 A7 BO7 HB7 HW7 BO5
        obtain ⟨ga, cp, rfl, t0, tr⟩ := BO8.out.rt.cells
        obtain ⟨m, hm⟩ : ∃ m, rs'.length = m := ⟨_, rfl⟩
        rw [hm] at t0 BO8
        have HM := Lib.hid hm
        have TR := Lib.hid tr
        have hm1 : m ≤ 1000 := by have := LN5.out; omega
        have hm2 : ps'.length = m := BO8.out.perm.length_eq.trans hm
        have HM2 := Lib.hid hm2
        have B8D : Below w8.heap.size w8 w8.drew := (Below.refl _ _).drew
        have AL := Lib.hid (show ∀ X, Below w8.heap.size w8 X → Calls Try.prog 14 #[.pointer (some ⟨b, 0, none⟩)] X (fun e w' => ∃ ao cq, e = .returned (.slice ao m cq) ∧ Below w8.heap.size w8 w') from fun X hx => (all_any w.heap.size b v' ps' X (BO8.out.below hx).tb LEN5).mono (by
          rintro e w' ⟨va, rfl, ⟨ao, cq, rfl, _⟩, hb⟩
          exact ⟨ao, cq, by rw [hm2], below_trans hx hb hx.size⟩))
        obtain ⟨x0, x1, x2, x3, x4, x5⟩ := rec_cells A8.out
        have wt : was = true ∨ was = false := by cases was <;> simp
        have KC := Lib.hid (show ∀ w', Below w8.heap.size w8 w' → (w'.cell? ⟨w6.heap.size, 0, none⟩ = some (.int .i64 a0) ∧ w'.cell? ⟨w6.heap.size, 1, none⟩ = some (.int .i64 a1) ∧ w'.cell? ⟨w6.heap.size, 2, none⟩ = some (.int .i64 a2) ∧ w'.cell? ⟨w6.heap.size, 3, none⟩ = some (.bool a3) ∧ w'.cell? ⟨w6.heap.size, 4, none⟩ = some (.int .i64 a4) ∧ w'.cell? ⟨w6.heap.size, 5, none⟩ = some (.int .i64 a5)) ∧ w'.cell? ⟨c, 0, none⟩ = some (.slice (some ⟨ga, 0, none⟩) m cp) from fun w' hx => ⟨rec_cells ((hx.block _ (lt_of_heap A8.out)).trans A8.out), (hx.cell (p := ⟨c, 0, none⟩) (block_lt_of_cell t0)).trans t0⟩)
        clear hm hm2 tr A8 wt
        obtain ⟨z13, hz13⟩ : ∃ z, atI rs' sg = z := ⟨_, rfl⟩
        rw [hz13] at OA ⊢
        clear hz13
        go_upto_region 12 with fail
        go_cut [96] (fun z wx => z = .bool false ∧ Below w8.heap.size w8 wx)
        case first =>
          rcases OA.out with ⟨i, r, hi, hat, hget, hof⟩ | ⟨hat, hof⟩
          have hx := OX.out
          rw [hof] at hx
          cases hx
          subst hat
          obtain ⟨r0, r1, r2, r3, r4, r5⟩ := TR.out i hi
          rw [hget] at r0 r1 r2 r3 r4 r5
          simp only at r0 r1 r2 r3 r4 r5
          have KE := Lib.hid (show ∀ w', Below w8.heap.size w8 w' → w'.cell? ⟨ga, i * 6, none⟩ = some (.int .i64 a0) ∧ w'.cell? ⟨ga, i * 6 + 1, none⟩ = some (.int .i64 a1) ∧ w'.cell? ⟨ga, i * 6 + 2, none⟩ = some (.int .i64 a2) ∧ w'.cell? ⟨ga, i * 6 + 3, none⟩ = some (.bool a3) ∧ w'.cell? ⟨ga, i * 6 + 4, none⟩ = some (.int .i64 a4) ∧ w'.cell? ⟨ga, i * 6 + 5, none⟩ = some (.int .i64 a5) from fun w' hx => by
            have hblk := block_lt_of_cell r0
            have e : ∀ o, w'.cell? ⟨ga, o, none⟩ = w8.cell? ⟨ga, o, none⟩ := fun o => hx.cell (p := ⟨ga, o, none⟩) hblk
            exact ⟨(e _).trans r0, (e _).trans r1, (e _).trans r2, (e _).trans r3, (e _).trans r4, (e _).trans r5⟩)
          have LR := Lib.hid (show ∀ X, Below w8.heap.size w8 X → Calls Try.prog 13 #[.agg #[.int .i64 a0, .int .i64 a1, .int .i64 a2, .bool a3, .int .i64 a4, .int .i64 a5]] X (fun e w' => e = .returned (.agg #[.int .i64 a0, .int .i64 a1, .int .i64 a2, .bool a3, .int .i64 a4, .int .i64 a5]) ∧ Below w8.heap.size w8 w') from fun X hx => (lref_any ⟨a0, a1, a2, a3, a4, a5⟩ X).mono (by
            rintro e w' ⟨rfl, hb⟩
            exact ⟨rfl, below_trans hx hb hx.size⟩))
          have hi' : (i : Int) < (m : Int) := by have := HM.out; omega
          have hi'' : i < m := by have := HM.out; omega
          clear hget hof
          focus go_wp2_with fail
          focus
            refine wp_region_held_drew (S := (fun w' => (w'.cell? ⟨w6.heap.size, 0, none⟩ = some (.int .i64 a0) ∧ w'.cell? ⟨w6.heap.size, 1, none⟩ = some (.int .i64 a1) ∧ w'.cell? ⟨w6.heap.size, 2, none⟩ = some (.int .i64 a2) ∧ w'.cell? ⟨w6.heap.size, 3, none⟩ = some (.bool a3) ∧ w'.cell? ⟨w6.heap.size, 4, none⟩ = some (.int .i64 a4) ∧ w'.cell? ⟨w6.heap.size, 5, none⟩ = some (.int .i64 a5)) ∧ w'.cell? ⟨c, 0, none⟩ = some (.slice (some ⟨ga, 0, none⟩) m cp) ∧ w'.cell? ⟨ga, i * 6, none⟩ = some (.int .i64 a0) ∧ w'.cell? ⟨ga, i * 6 + 1, none⟩ = some (.int .i64 a1) ∧ w'.cell? ⟨ga, i * 6 + 2, none⟩ = some (.int .i64 a2) ∧ w'.cell? ⟨ga, i * 6 + 3, none⟩ = some (.bool a3) ∧ w'.cell? ⟨ga, i * 6 + 4, none⟩ = some (.int .i64 a4) ∧ w'.cell? ⟨ga, i * 6 + 5, none⟩ = some (.int .i64 a5))) (by kernel_rfl) (by (try dsimp only); go_keep) (fun hHeld => ?_)
            refine wpAnyH_take (i := 0) (v := ?va0) rfl (by kernel_rfl) (by kernel_rfl) (by kernel_rfl) (fun _ _ _ h => h) (Or.inl ⟨by kernel_rfl, ?hya0⟩) (by assumption) ?resta0
            case hya0 => (intro w hSw; (try dsimp only at hSw); go_simp; try with_reducible rfl)
            try simp only [Act.put, List.getElem_toArray, List.getElem_cons_succ, List.getElem_cons_zero, List.setIfInBounds_toArray, List.set_cons_zero, List.set_cons_succ]
            refine wpAnyH_take (i := 1) (v := ?va1) rfl (by kernel_rfl) (by kernel_rfl) (by kernel_rfl) (fun _ _ _ h => h) (Or.inl ⟨by kernel_rfl, ?hya1⟩) (by assumption) ?resta1
            case hya1 => (intro w hSw; (try dsimp only at hSw); go_simp; try with_reducible rfl)
            try simp only [Act.put, List.getElem_toArray, List.getElem_cons_succ, List.getElem_cons_zero, List.setIfInBounds_toArray, List.set_cons_zero, List.set_cons_succ]
            refine wpAnyH_take (i := 2) (v := ?va2) rfl (by kernel_rfl) (by kernel_rfl) (by kernel_rfl) (fun _ _ _ h => h) (Or.inl ⟨by kernel_rfl, ?hya2⟩) (by assumption) ?resta2
            case hya2 => (intro w hSw; (try dsimp only at hSw); go_simp; try with_reducible rfl)
            try simp only [Act.put, List.getElem_toArray, List.getElem_cons_succ, List.getElem_cons_zero, List.setIfInBounds_toArray, List.set_cons_zero, List.set_cons_succ]
            refine wpAnyH_take (i := 3) (v := ?va3) rfl (by kernel_rfl) (by kernel_rfl) (by kernel_rfl) (fun _ _ _ h => h) (Or.inl ⟨by kernel_rfl, ?hya3⟩) (by assumption) ?resta3
            case hya3 => (intro w hSw; (try dsimp only at hSw); go_simp; try with_reducible rfl)
            try simp only [Act.put, List.getElem_toArray, List.getElem_cons_succ, List.getElem_cons_zero, List.setIfInBounds_toArray, List.set_cons_zero, List.set_cons_succ]
            refine wpAnyH_take (i := 4) (v := ?va4) rfl (by kernel_rfl) (by kernel_rfl) (by kernel_rfl) (fun _ _ _ h => h) (Or.inl ⟨by kernel_rfl, ?hya4⟩) (by assumption) ?resta4
            case hya4 => (intro w hSw; (try dsimp only at hSw); go_simp; try with_reducible rfl)
            try simp only [Act.put, List.getElem_toArray, List.getElem_cons_succ, List.getElem_cons_zero, List.setIfInBounds_toArray, List.set_cons_zero, List.set_cons_succ]
            refine wpAnyH_take (i := 5) (v := ?va5) rfl (by kernel_rfl) (by kernel_rfl) (by kernel_rfl) (fun _ _ _ h => h) (Or.inl ⟨by kernel_rfl, ?hya5⟩) (by assumption) ?resta5
            case hya5 => (intro w hSw; (try dsimp only at hSw); go_simp; try with_reducible rfl)
            try simp only [Act.put, List.getElem_toArray, List.getElem_cons_succ, List.getElem_cons_zero, List.setIfInBounds_toArray, List.set_cons_zero, List.set_cons_succ]
            refine wpAnyH_take (i := 6) (v := ?va6) rfl (by kernel_rfl) (by kernel_rfl) (by kernel_rfl) (fun _ _ _ h => h) (Or.inl ⟨by kernel_rfl, ?hya6⟩) (by assumption) ?resta6
            case hya6 => (intro w hSw; (try dsimp only at hSw); go_simp; try with_reducible rfl)
            try simp only [Act.put, List.getElem_toArray, List.getElem_cons_succ, List.getElem_cons_zero, List.setIfInBounds_toArray, List.set_cons_zero, List.set_cons_succ]
            refine wpAnyH_take (i := 7) (v := ?va7) rfl (by kernel_rfl) (by kernel_rfl) (by kernel_rfl) (fun _ _ _ h => h) (Or.inl ⟨by kernel_rfl, ?hya7⟩) (by assumption) ?resta7
            case hya7 => (intro w hSw; (try dsimp only at hSw); go_simp; try with_reducible rfl)
            try simp only [Act.put, List.getElem_toArray, List.getElem_cons_succ, List.getElem_cons_zero, List.setIfInBounds_toArray, List.set_cons_zero, List.set_cons_succ]
            refine wpAnyH_take (i := 9) (v := ?va9) rfl (by kernel_rfl) (by kernel_rfl) (by kernel_rfl) (fun _ _ _ h => h) (Or.inl ⟨by kernel_rfl, ?hya9⟩) (by assumption) ?resta9
            case hya9 => (intro w hSw; (try dsimp only at hSw); go_simp; try with_reducible rfl)
            try simp only [Act.put, List.getElem_toArray, List.getElem_cons_succ, List.getElem_cons_zero, List.setIfInBounds_toArray, List.set_cons_zero, List.set_cons_succ]
            refine wpAnyH_take (i := 10) (v := ?va10) rfl (by kernel_rfl) (by kernel_rfl) (by kernel_rfl) (fun _ _ _ h => h) (Or.inl ⟨by kernel_rfl, ?hya10⟩) (by assumption) ?resta10
            case hya10 => (intro w hSw; (try dsimp only at hSw); go_simp; try with_reducible rfl)
            try simp only [Act.put, List.getElem_toArray, List.getElem_cons_succ, List.getElem_cons_zero, List.setIfInBounds_toArray, List.set_cons_zero, List.set_cons_succ]
            refine wpAnyH_take (i := 11) (v := ?va11) rfl (by kernel_rfl) (by kernel_rfl) (by kernel_rfl) (fun _ _ _ h => h) (Or.inl ⟨by kernel_rfl, ?hya11⟩) (by assumption) ?resta11
            case hya11 => (intro w hSw; (try dsimp only at hSw); go_simp; try with_reducible rfl)
            try simp only [Act.put, List.getElem_toArray, List.getElem_cons_succ, List.getElem_cons_zero, List.setIfInBounds_toArray, List.set_cons_zero, List.set_cons_succ]
            refine wpAnyH_take (i := 12) (v := ?va12) rfl (by kernel_rfl) (by kernel_rfl) (by kernel_rfl) (fun _ _ _ h => h) (Or.inl ⟨by kernel_rfl, ?hya12⟩) (by assumption) ?resta12
            case hya12 => (intro w hSw; (try dsimp only at hSw); go_simp; try with_reducible rfl)
            try simp only [Act.put, List.getElem_toArray, List.getElem_cons_succ, List.getElem_cons_zero, List.setIfInBounds_toArray, List.set_cons_zero, List.set_cons_succ]
            refine wpAnyH_take (i := 13) (v := ?va13) rfl (by kernel_rfl) (by kernel_rfl) (by kernel_rfl) (fun _ _ _ h => h) (Or.inl ⟨by kernel_rfl, ?hya13⟩) (by assumption) ?resta13
            case hya13 => (intro w hSw; (try dsimp only at hSw); go_simp; try with_reducible rfl)
            try simp only [Act.put, List.getElem_toArray, List.getElem_cons_succ, List.getElem_cons_zero, List.setIfInBounds_toArray, List.set_cons_zero, List.set_cons_succ]
            refine wpAnyH_take (i := 14) (v := ?va14) rfl (by kernel_rfl) (by kernel_rfl) (by kernel_rfl) (fun _ _ _ h => h) (Or.inl ⟨by kernel_rfl, ?hya14⟩) (by assumption) ?resta14
            case hya14 => (intro w hSw; (try dsimp only at hSw); go_simp; try with_reducible rfl)
            try simp only [Act.put, List.getElem_toArray, List.getElem_cons_succ, List.getElem_cons_zero, List.setIfInBounds_toArray, List.set_cons_zero, List.set_cons_succ]
            refine wpAnyH_take (i := 15) (v := ?va15) rfl (by kernel_rfl) (by kernel_rfl) (by kernel_rfl) (fun _ _ _ h => h) (Or.inl ⟨by kernel_rfl, ?hya15⟩) (by assumption) ?resta15
            case hya15 => (intro w hSw; (try dsimp only at hSw); go_simp; try with_reducible rfl)
            try simp only [Act.put, List.getElem_toArray, List.getElem_cons_succ, List.getElem_cons_zero, List.setIfInBounds_toArray, List.set_cons_zero, List.set_cons_succ]
            refine wpAnyH_ready (rs := [8]) (by kernel_rfl) (by simp) ?_
            refine AllReadyH.cons rfl (fun K hK => ?_) AllReadyH.nil
            go_simp
            go_at_call 13; (with_reducible refine (LR.out _ (by assumption)).mono ?_); rintro q w9 ⟨rfl, hb9⟩; obtain ⟨⟨y0, y1, y2, y3, y4, y5⟩, y6⟩ := KC.out _ hb9; obtain ⟨s0, s1, s2, s3, s4, s5⟩ := KE.out _ hb9
            refine hK.out _ _ (by (try dsimp only); go_keep) (fun hHeld => ?_)
            clear hK K
            try simp only [Act.put, List.getElem_toArray, List.getElem_cons_succ, List.getElem_cons_zero, List.setIfInBounds_toArray, List.set_cons_zero, List.set_cons_succ]
            refine wpAnyH_take (i := 16) (v := ?va16) rfl (by kernel_rfl) (by kernel_rfl) (by kernel_rfl) (fun _ _ _ h => h) (Or.inl ⟨by kernel_rfl, ?hya16⟩) (by assumption) ?resta16
            case hya16 => (intro w hSw; (try dsimp only at hSw); go_simp; try with_reducible rfl)
            try simp only [Act.put, List.getElem_toArray, List.getElem_cons_succ, List.getElem_cons_zero, List.setIfInBounds_toArray, List.set_cons_zero, List.set_cons_succ]
            refine wpAnyH_take (i := 17) (v := ?va17) rfl (by kernel_rfl) (by kernel_rfl) (by kernel_rfl) (fun _ _ _ h => h) (Or.inl ⟨by kernel_rfl, ?hya17⟩) (by assumption) ?resta17
            case hya17 => (intro w hSw; (try dsimp only at hSw); go_simp; try with_reducible rfl)
            try simp only [Act.put, List.getElem_toArray, List.getElem_cons_succ, List.getElem_cons_zero, List.setIfInBounds_toArray, List.set_cons_zero, List.set_cons_succ]
            refine wpAnyH_take (i := 18) (v := ?va18) rfl (by kernel_rfl) (by kernel_rfl) (by kernel_rfl) (fun _ _ _ h => h) (Or.inl ⟨by kernel_rfl, ?hya18⟩) (by assumption) ?resta18
            case hya18 => (intro w hSw; (try dsimp only at hSw); go_simp; try with_reducible rfl)
            try simp only [Act.put, List.getElem_toArray, List.getElem_cons_succ, List.getElem_cons_zero, List.setIfInBounds_toArray, List.set_cons_zero, List.set_cons_succ]
            refine wpAnyH_take (i := 19) (v := ?va19) rfl (by kernel_rfl) (by kernel_rfl) (by kernel_rfl) (fun _ _ _ h => h) (Or.inl ⟨by kernel_rfl, ?hya19⟩) (by assumption) ?resta19
            case hya19 => (intro w hSw; (try dsimp only at hSw); go_simp; try with_reducible rfl)
            try simp only [Act.put, List.getElem_toArray, List.getElem_cons_succ, List.getElem_cons_zero, List.setIfInBounds_toArray, List.set_cons_zero, List.set_cons_succ]
            refine wpAnyH_take (i := 20) (v := ?va20) rfl (by kernel_rfl) (by kernel_rfl) (by kernel_rfl) (fun _ _ _ h => h) (Or.inl ⟨by kernel_rfl, ?hya20⟩) (by assumption) ?resta20
            case hya20 => (intro w hSw; (try dsimp only at hSw); go_simp; try with_reducible rfl)
            try simp only [Act.put, List.getElem_toArray, List.getElem_cons_succ, List.getElem_cons_zero, List.setIfInBounds_toArray, List.set_cons_zero, List.set_cons_succ]
            refine wpAnyH_take (i := 21) (v := ?va21) rfl (by kernel_rfl) (by kernel_rfl) (by kernel_rfl) (fun _ _ _ h => h) (Or.inl ⟨by kernel_rfl, ?hya21⟩) (by assumption) ?resta21
            case hya21 => (intro w hSw; (try dsimp only at hSw); go_simp; try with_reducible rfl)
            try simp only [Act.put, List.getElem_toArray, List.getElem_cons_succ, List.getElem_cons_zero, List.setIfInBounds_toArray, List.set_cons_zero, List.set_cons_succ]
            refine wpAnyH_take (i := 22) (v := ?va22) rfl (by kernel_rfl) (by kernel_rfl) (by kernel_rfl) (fun _ _ _ h => h) (Or.inl ⟨by kernel_rfl, ?hya22⟩) (by assumption) ?resta22
            case hya22 => (intro w hSw; (try dsimp only at hSw); go_simp; try with_reducible rfl)
            try simp only [Act.put, List.getElem_toArray, List.getElem_cons_succ, List.getElem_cons_zero, List.setIfInBounds_toArray, List.set_cons_zero, List.set_cons_succ]
            refine wpAnyH_take (i := 23) (v := undef) rfl (by kernel_rfl) (by kernel_rfl) (by kernel_rfl) (fun _ _ _ h => h) (Or.inr ⟨by kernel_rfl, rfl⟩) (by assumption) ?_
            try simp only [Act.put, List.getElem_toArray, List.getElem_cons_succ, List.getElem_cons_zero, List.setIfInBounds_toArray, List.set_cons_zero, List.set_cons_succ]
            refine wpAnyH_take (i := 24) (v := undef) rfl (by kernel_rfl) (by kernel_rfl) (by kernel_rfl) (fun _ _ _ h => h) (Or.inr ⟨by kernel_rfl, rfl⟩) (by assumption) ?_
            try simp only [Act.put, List.getElem_toArray, List.getElem_cons_succ, List.getElem_cons_zero, List.setIfInBounds_toArray, List.set_cons_zero, List.set_cons_succ]
            refine wpAnyH_take (i := 25) (v := undef) rfl (by kernel_rfl) (by kernel_rfl) (by kernel_rfl) (fun _ _ _ h => h) (Or.inr ⟨by kernel_rfl, rfl⟩) (by assumption) ?_
            try simp only [Act.put, List.getElem_toArray, List.getElem_cons_succ, List.getElem_cons_zero, List.setIfInBounds_toArray, List.set_cons_zero, List.set_cons_succ]
            refine wpAnyH_take (i := 26) (v := ?va26) rfl (by kernel_rfl) (by kernel_rfl) (by kernel_rfl) (fun _ _ _ h => h) (Or.inl ⟨by kernel_rfl, ?hya26⟩) (by assumption) ?resta26
            case hya26 => (intro w hSw; (try dsimp only at hSw); go_simp; try with_reducible rfl)
            try simp only [Act.put, List.getElem_toArray, List.getElem_cons_succ, List.getElem_cons_zero, List.setIfInBounds_toArray, List.set_cons_zero, List.set_cons_succ]
            refine wpAnyH_take (i := 27) (v := ?va27) rfl (by kernel_rfl) (by kernel_rfl) (by kernel_rfl) (fun _ _ _ h => h) (Or.inl ⟨by kernel_rfl, ?hya27⟩) (by assumption) ?resta27
            case hya27 => (intro w hSw; (try dsimp only at hSw); go_simp; try with_reducible rfl)
            try simp only [Act.put, List.getElem_toArray, List.getElem_cons_succ, List.getElem_cons_zero, List.setIfInBounds_toArray, List.set_cons_zero, List.set_cons_succ]
            refine wpAnyH_take (i := 28) (v := ?va28) rfl (by kernel_rfl) (by kernel_rfl) (by kernel_rfl) (fun _ _ _ h => h) (Or.inl ⟨by kernel_rfl, ?hya28⟩) (by assumption) ?resta28
            case hya28 => (intro w hSw; (try dsimp only at hSw); go_simp; try with_reducible rfl)
            try simp only [Act.put, List.getElem_toArray, List.getElem_cons_succ, List.getElem_cons_zero, List.setIfInBounds_toArray, List.set_cons_zero, List.set_cons_succ]
            refine wpAnyH_take (i := 29) (v := ?va29) rfl (by kernel_rfl) (by kernel_rfl) (by kernel_rfl) (fun _ _ _ h => h) (Or.inl ⟨by kernel_rfl, ?hya29⟩) (by assumption) ?resta29
            case hya29 => (intro w hSw; (try dsimp only at hSw); go_simp; try with_reducible rfl)
            try simp only [Act.put, List.getElem_toArray, List.getElem_cons_succ, List.getElem_cons_zero, List.setIfInBounds_toArray, List.set_cons_zero, List.set_cons_succ]
            refine wpAnyH_take (i := 32) (v := ?va32) rfl (by kernel_rfl) (by kernel_rfl) (by kernel_rfl) (fun _ _ _ h => h) (Or.inl ⟨by kernel_rfl, ?hya32⟩) (by assumption) ?resta32
            case hya32 => (intro w hSw; (try dsimp only at hSw); go_simp; try with_reducible rfl)
            try simp only [Act.put, List.getElem_toArray, List.getElem_cons_succ, List.getElem_cons_zero, List.setIfInBounds_toArray, List.set_cons_zero, List.set_cons_succ]
            refine wpAnyH_take (i := 33) (v := ?va33) rfl (by kernel_rfl) (by kernel_rfl) (by kernel_rfl) (fun _ _ _ h => h) (Or.inl ⟨by kernel_rfl, ?hya33⟩) (by assumption) ?resta33
            case hya33 => (intro w hSw; (try dsimp only at hSw); go_simp; try with_reducible rfl)
            try simp only [Act.put, List.getElem_toArray, List.getElem_cons_succ, List.getElem_cons_zero, List.setIfInBounds_toArray, List.set_cons_zero, List.set_cons_succ]
            refine wpAnyH_take (i := 34) (v := ?va34) rfl (by kernel_rfl) (by kernel_rfl) (by kernel_rfl) (fun _ _ _ h => h) (Or.inl ⟨by kernel_rfl, ?hya34⟩) (by assumption) ?resta34
            case hya34 => (intro w hSw; (try dsimp only at hSw); go_simp; try with_reducible rfl)
            try simp only [Act.put, List.getElem_toArray, List.getElem_cons_succ, List.getElem_cons_zero, List.setIfInBounds_toArray, List.set_cons_zero, List.set_cons_succ]
            refine wpAnyH_take (i := 35) (v := ?va35) rfl (by kernel_rfl) (by kernel_rfl) (by kernel_rfl) (fun _ _ _ h => h) (Or.inl ⟨by kernel_rfl, ?hya35⟩) (by assumption) ?resta35
            case hya35 => (intro w hSw; (try dsimp only at hSw); go_simp; try with_reducible rfl)
            try simp only [Act.put, List.getElem_toArray, List.getElem_cons_succ, List.getElem_cons_zero, List.setIfInBounds_toArray, List.set_cons_zero, List.set_cons_succ]
            refine wpAnyH_take (i := 36) (v := ?va36) rfl (by kernel_rfl) (by kernel_rfl) (by kernel_rfl) (fun _ _ _ h => h) (Or.inl ⟨by kernel_rfl, ?hya36⟩) (by assumption) ?resta36
            case hya36 => (intro w hSw; (try dsimp only at hSw); go_simp; try with_reducible rfl)
            try simp only [Act.put, List.getElem_toArray, List.getElem_cons_succ, List.getElem_cons_zero, List.setIfInBounds_toArray, List.set_cons_zero, List.set_cons_succ]
            refine wpAnyH_ready (rs := [30]) (by kernel_rfl) (by simp) ?_
            refine AllReadyH.cons rfl (fun K hK => ?_) AllReadyH.nil
            go_simp
            go_at_call 14; (with_reducible refine (AL.out _ (by assumption)).mono ?_); rintro q w10 ⟨aq, cq, rfl, hb10⟩; obtain ⟨⟨g0, g1, g2, g3, g4, g5⟩, g6⟩ := KC.out _ hb10; obtain ⟨h0, h1, h2, h3, h4, h5⟩ := KE.out _ hb10
            refine hK.out _ _ (by (try dsimp only); go_keep) (fun hHeld => ?_)
            clear hK K
            try simp only [Act.put, List.getElem_toArray, List.getElem_cons_succ, List.getElem_cons_zero, List.setIfInBounds_toArray, List.set_cons_zero, List.set_cons_succ]
            refine wpAnyH_take (i := 31) (v := ?va31) rfl (by kernel_rfl) (by kernel_rfl) (by kernel_rfl) (fun _ _ _ h => h) (Or.inl ⟨by kernel_rfl, ?hya31⟩) (by assumption) ?resta31
            case hya31 => (intro w hSw; (try dsimp only at hSw); go_simp; try with_reducible rfl)
            try simp only [Act.put, List.getElem_toArray, List.getElem_cons_succ, List.getElem_cons_zero, List.setIfInBounds_toArray, List.set_cons_zero, List.set_cons_succ]
            refine wpAnyH_take (i := 37) (v := ?va37) rfl (by kernel_rfl) (by kernel_rfl) (by kernel_rfl) (fun _ _ _ h => h) (Or.inl ⟨by kernel_rfl, ?hya37⟩) (by assumption) ?resta37
            case hya37 => (intro w hSw; (try dsimp only at hSw); go_simp; try with_reducible rfl)
            try simp only [Act.put, List.getElem_toArray, List.getElem_cons_succ, List.getElem_cons_zero, List.setIfInBounds_toArray, List.set_cons_zero, List.set_cons_succ]
            refine wpAnyH_take (i := 38) (v := ?va38) rfl (by kernel_rfl) (by kernel_rfl) (by kernel_rfl) (fun _ _ _ h => h) (Or.inl ⟨by kernel_rfl, ?hya38⟩) (by assumption) ?resta38
            case hya38 => (intro w hSw; (try dsimp only at hSw); go_simp; try with_reducible rfl)
            try simp only [Act.put, List.getElem_toArray, List.getElem_cons_succ, List.getElem_cons_zero, List.setIfInBounds_toArray, List.set_cons_zero, List.set_cons_succ]
            refine wpAnyH_done (by kernel_rfl) ?_ _
          go_wp2_with fail
          go_meet
          exact ⟨rfl, hb10⟩
          have hx := OX.out
          rw [hof] at hx
          cases hx
          subst hat
          clear hof
          go_wp2_with fail
          focus
            refine wp_region_held_drew (S := (fun w' => (w'.cell? ⟨w6.heap.size, 0, none⟩ = some (.int .i64 0) ∧ w'.cell? ⟨w6.heap.size, 1, none⟩ = some (.int .i64 0) ∧ w'.cell? ⟨w6.heap.size, 2, none⟩ = some (.int .i64 0) ∧ w'.cell? ⟨w6.heap.size, 3, none⟩ = some (.bool false) ∧ w'.cell? ⟨w6.heap.size, 4, none⟩ = some (.int .i64 0) ∧ w'.cell? ⟨w6.heap.size, 5, none⟩ = some (.int .i64 0)) ∧ w'.cell? ⟨c, 0, none⟩ = some (.slice (some ⟨ga, 0, none⟩) m cp))) (by kernel_rfl) (by (try dsimp only); go_keep) (fun hHeld => ?_)
            refine wpAnyH_take (i := 0) (v := ?vb0) rfl (by kernel_rfl) (by kernel_rfl) (by kernel_rfl) (fun _ _ _ h => h) (Or.inl ⟨by kernel_rfl, ?hyb0⟩) (by assumption) ?restb0
            case hyb0 => (intro w hSw; (try dsimp only at hSw); go_simp; try with_reducible rfl)
            try simp only [Act.put, List.getElem_toArray, List.getElem_cons_succ, List.getElem_cons_zero, List.setIfInBounds_toArray, List.set_cons_zero, List.set_cons_succ]
            refine wpAnyH_take (i := 1) (v := ?vb1) rfl (by kernel_rfl) (by kernel_rfl) (by kernel_rfl) (fun _ _ _ h => h) (Or.inl ⟨by kernel_rfl, ?hyb1⟩) (by assumption) ?restb1
            case hyb1 => (intro w hSw; (try dsimp only at hSw); go_simp; try with_reducible rfl)
            try simp only [Act.put, List.getElem_toArray, List.getElem_cons_succ, List.getElem_cons_zero, List.setIfInBounds_toArray, List.set_cons_zero, List.set_cons_succ]
            refine wpAnyH_take (i := 2) (v := ?vb2) rfl (by kernel_rfl) (by kernel_rfl) (by kernel_rfl) (fun _ _ _ h => h) (Or.inl ⟨by kernel_rfl, ?hyb2⟩) (by assumption) ?restb2
            case hyb2 => (intro w hSw; (try dsimp only at hSw); go_simp; try with_reducible rfl)
            try simp only [Act.put, List.getElem_toArray, List.getElem_cons_succ, List.getElem_cons_zero, List.setIfInBounds_toArray, List.set_cons_zero, List.set_cons_succ]
            refine wpAnyH_take (i := 3) (v := ?vb3) rfl (by kernel_rfl) (by kernel_rfl) (by kernel_rfl) (fun _ _ _ h => h) (Or.inl ⟨by kernel_rfl, ?hyb3⟩) (by assumption) ?restb3
            case hyb3 => (intro w hSw; (try dsimp only at hSw); go_simp; try with_reducible rfl)
            try simp only [Act.put, List.getElem_toArray, List.getElem_cons_succ, List.getElem_cons_zero, List.setIfInBounds_toArray, List.set_cons_zero, List.set_cons_succ]
            refine wpAnyH_take (i := 4) (v := ?vb4) rfl (by kernel_rfl) (by kernel_rfl) (by kernel_rfl) (fun _ _ _ h => h) (Or.inl ⟨by kernel_rfl, ?hyb4⟩) (by assumption) ?restb4
            case hyb4 => (intro w hSw; (try dsimp only at hSw); go_simp; try with_reducible rfl)
            try simp only [Act.put, List.getElem_toArray, List.getElem_cons_succ, List.getElem_cons_zero, List.setIfInBounds_toArray, List.set_cons_zero, List.set_cons_succ]
            refine wpAnyH_take (i := 5) (v := ?vb5) rfl (by kernel_rfl) (by kernel_rfl) (by kernel_rfl) (fun _ _ _ h => h) (Or.inl ⟨by kernel_rfl, ?hyb5⟩) (by assumption) ?restb5
            case hyb5 => (intro w hSw; (try dsimp only at hSw); go_simp; try with_reducible rfl)
            try simp only [Act.put, List.getElem_toArray, List.getElem_cons_succ, List.getElem_cons_zero, List.setIfInBounds_toArray, List.set_cons_zero, List.set_cons_succ]
            refine wpAnyH_take (i := 6) (v := ?vb6) rfl (by kernel_rfl) (by kernel_rfl) (by kernel_rfl) (fun _ _ _ h => h) (Or.inl ⟨by kernel_rfl, ?hyb6⟩) (by assumption) ?restb6
            case hyb6 => (intro w hSw; (try dsimp only at hSw); go_simp; try with_reducible rfl)
            try simp only [Act.put, List.getElem_toArray, List.getElem_cons_succ, List.getElem_cons_zero, List.setIfInBounds_toArray, List.set_cons_zero, List.set_cons_succ]
            refine wpAnyH_take (i := 7) (v := undef) rfl (by kernel_rfl) (by kernel_rfl) (by kernel_rfl) (fun _ _ _ h => h) (Or.inr ⟨by kernel_rfl, rfl⟩) (by assumption) ?_
            try simp only [Act.put, List.getElem_toArray, List.getElem_cons_succ, List.getElem_cons_zero, List.setIfInBounds_toArray, List.set_cons_zero, List.set_cons_succ]
            refine wpAnyH_take (i := 8) (v := undef) rfl (by kernel_rfl) (by kernel_rfl) (by kernel_rfl) (fun _ _ _ h => h) (Or.inr ⟨by kernel_rfl, rfl⟩) (by assumption) ?_
            try simp only [Act.put, List.getElem_toArray, List.getElem_cons_succ, List.getElem_cons_zero, List.setIfInBounds_toArray, List.set_cons_zero, List.set_cons_succ]
            refine wpAnyH_take (i := 9) (v := undef) rfl (by kernel_rfl) (by kernel_rfl) (by kernel_rfl) (fun _ _ _ h => h) (Or.inr ⟨by kernel_rfl, rfl⟩) (by assumption) ?_
            try simp only [Act.put, List.getElem_toArray, List.getElem_cons_succ, List.getElem_cons_zero, List.setIfInBounds_toArray, List.set_cons_zero, List.set_cons_succ]
            refine wpAnyH_take (i := 10) (v := undef) rfl (by kernel_rfl) (by kernel_rfl) (by kernel_rfl) (fun _ _ _ h => h) (Or.inr ⟨by kernel_rfl, rfl⟩) (by assumption) ?_
            try simp only [Act.put, List.getElem_toArray, List.getElem_cons_succ, List.getElem_cons_zero, List.setIfInBounds_toArray, List.set_cons_zero, List.set_cons_succ]
            refine wpAnyH_take (i := 11) (v := undef) rfl (by kernel_rfl) (by kernel_rfl) (by kernel_rfl) (fun _ _ _ h => h) (Or.inr ⟨by kernel_rfl, rfl⟩) (by assumption) ?_
            try simp only [Act.put, List.getElem_toArray, List.getElem_cons_succ, List.getElem_cons_zero, List.setIfInBounds_toArray, List.set_cons_zero, List.set_cons_succ]
            refine wpAnyH_take (i := 12) (v := undef) rfl (by kernel_rfl) (by kernel_rfl) (by kernel_rfl) (fun _ _ _ h => h) (Or.inr ⟨by kernel_rfl, rfl⟩) (by assumption) ?_
            try simp only [Act.put, List.getElem_toArray, List.getElem_cons_succ, List.getElem_cons_zero, List.setIfInBounds_toArray, List.set_cons_zero, List.set_cons_succ]
            refine wpAnyH_take (i := 13) (v := undef) rfl (by kernel_rfl) (by kernel_rfl) (by kernel_rfl) (fun _ _ _ h => h) (Or.inr ⟨by kernel_rfl, rfl⟩) (by assumption) ?_
            try simp only [Act.put, List.getElem_toArray, List.getElem_cons_succ, List.getElem_cons_zero, List.setIfInBounds_toArray, List.set_cons_zero, List.set_cons_succ]
            refine wpAnyH_take (i := 14) (v := undef) rfl (by kernel_rfl) (by kernel_rfl) (by kernel_rfl) (fun _ _ _ h => h) (Or.inr ⟨by kernel_rfl, rfl⟩) (by assumption) ?_
            try simp only [Act.put, List.getElem_toArray, List.getElem_cons_succ, List.getElem_cons_zero, List.setIfInBounds_toArray, List.set_cons_zero, List.set_cons_succ]
            refine wpAnyH_take (i := 15) (v := undef) rfl (by kernel_rfl) (by kernel_rfl) (by kernel_rfl) (fun _ _ _ h => h) (Or.inr ⟨by kernel_rfl, rfl⟩) (by assumption) ?_
            try simp only [Act.put, List.getElem_toArray, List.getElem_cons_succ, List.getElem_cons_zero, List.setIfInBounds_toArray, List.set_cons_zero, List.set_cons_succ]
            refine wpAnyH_take (i := 16) (v := undef) rfl (by kernel_rfl) (by kernel_rfl) (by kernel_rfl) (fun _ _ _ h => h) (Or.inr ⟨by kernel_rfl, rfl⟩) (by assumption) ?_
            try simp only [Act.put, List.getElem_toArray, List.getElem_cons_succ, List.getElem_cons_zero, List.setIfInBounds_toArray, List.set_cons_zero, List.set_cons_succ]
            refine wpAnyH_take (i := 17) (v := ?vb17) rfl (by kernel_rfl) (by kernel_rfl) (by kernel_rfl) (fun _ _ _ h => h) (Or.inl ⟨by kernel_rfl, ?hyb17⟩) (by assumption) ?restb17
            case hyb17 => (intro w hSw; (try dsimp only at hSw); go_simp; try with_reducible rfl)
            try simp only [Act.put, List.getElem_toArray, List.getElem_cons_succ, List.getElem_cons_zero, List.setIfInBounds_toArray, List.set_cons_zero, List.set_cons_succ]
            refine wpAnyH_take (i := 18) (v := ?vb18) rfl (by kernel_rfl) (by kernel_rfl) (by kernel_rfl) (fun _ _ _ h => h) (Or.inl ⟨by kernel_rfl, ?hyb18⟩) (by assumption) ?restb18
            case hyb18 => (intro w hSw; (try dsimp only at hSw); go_simp; try with_reducible rfl)
            try simp only [Act.put, List.getElem_toArray, List.getElem_cons_succ, List.getElem_cons_zero, List.setIfInBounds_toArray, List.set_cons_zero, List.set_cons_succ]
            refine wpAnyH_take (i := 19) (v := ?vb19) rfl (by kernel_rfl) (by kernel_rfl) (by kernel_rfl) (fun _ _ _ h => h) (Or.inl ⟨by kernel_rfl, ?hyb19⟩) (by assumption) ?restb19
            case hyb19 => (intro w hSw; (try dsimp only at hSw); go_simp; try with_reducible rfl)
            try simp only [Act.put, List.getElem_toArray, List.getElem_cons_succ, List.getElem_cons_zero, List.setIfInBounds_toArray, List.set_cons_zero, List.set_cons_succ]
            refine wpAnyH_take (i := 20) (v := ?vb20) rfl (by kernel_rfl) (by kernel_rfl) (by kernel_rfl) (fun _ _ _ h => h) (Or.inl ⟨by kernel_rfl, ?hyb20⟩) (by assumption) ?restb20
            case hyb20 => (intro w hSw; (try dsimp only at hSw); go_simp; try with_reducible rfl)
            try simp only [Act.put, List.getElem_toArray, List.getElem_cons_succ, List.getElem_cons_zero, List.setIfInBounds_toArray, List.set_cons_zero, List.set_cons_succ]
            refine wpAnyH_take (i := 21) (v := ?vb21) rfl (by kernel_rfl) (by kernel_rfl) (by kernel_rfl) (fun _ _ _ h => h) (Or.inl ⟨by kernel_rfl, ?hyb21⟩) (by assumption) ?restb21
            case hyb21 => (intro w hSw; (try dsimp only at hSw); go_simp; try with_reducible rfl)
            try simp only [Act.put, List.getElem_toArray, List.getElem_cons_succ, List.getElem_cons_zero, List.setIfInBounds_toArray, List.set_cons_zero, List.set_cons_succ]
            refine wpAnyH_take (i := 22) (v := ?vb22) rfl (by kernel_rfl) (by kernel_rfl) (by kernel_rfl) (fun _ _ _ h => h) (Or.inl ⟨by kernel_rfl, ?hyb22⟩) (by assumption) ?restb22
            case hyb22 => (intro w hSw; (try dsimp only at hSw); go_simp; try with_reducible rfl)
            try simp only [Act.put, List.getElem_toArray, List.getElem_cons_succ, List.getElem_cons_zero, List.setIfInBounds_toArray, List.set_cons_zero, List.set_cons_succ]
            refine wpAnyH_take (i := 23) (v := ?vb23) rfl (by kernel_rfl) (by kernel_rfl) (by kernel_rfl) (fun _ _ _ h => h) (Or.inl ⟨by kernel_rfl, ?hyb23⟩) (by assumption) ?restb23
            case hyb23 => (intro w hSw; (try dsimp only at hSw); go_simp; try with_reducible rfl)
            try simp only [Act.put, List.getElem_toArray, List.getElem_cons_succ, List.getElem_cons_zero, List.setIfInBounds_toArray, List.set_cons_zero, List.set_cons_succ]
            refine wpAnyH_take (i := 24) (v := ?vb24) rfl (by kernel_rfl) (by kernel_rfl) (by kernel_rfl) (fun _ _ _ h => h) (Or.inl ⟨by kernel_rfl, ?hyb24⟩) (by assumption) ?restb24
            case hyb24 => (intro w hSw; (try dsimp only at hSw); go_simp; try with_reducible rfl)
            try simp only [Act.put, List.getElem_toArray, List.getElem_cons_succ, List.getElem_cons_zero, List.setIfInBounds_toArray, List.set_cons_zero, List.set_cons_succ]
            refine wpAnyH_take (i := 25) (v := ?vb25) rfl (by kernel_rfl) (by kernel_rfl) (by kernel_rfl) (fun _ _ _ h => h) (Or.inl ⟨by kernel_rfl, ?hyb25⟩) (by assumption) ?restb25
            case hyb25 => (intro w hSw; (try dsimp only at hSw); go_simp; try with_reducible rfl)
            try simp only [Act.put, List.getElem_toArray, List.getElem_cons_succ, List.getElem_cons_zero, List.setIfInBounds_toArray, List.set_cons_zero, List.set_cons_succ]
            refine wpAnyH_take (i := 26) (v := ?vb26) rfl (by kernel_rfl) (by kernel_rfl) (by kernel_rfl) (fun _ _ _ h => h) (Or.inl ⟨by kernel_rfl, ?hyb26⟩) (by assumption) ?restb26
            case hyb26 => (intro w hSw; (try dsimp only at hSw); go_simp; try with_reducible rfl)
            try simp only [Act.put, List.getElem_toArray, List.getElem_cons_succ, List.getElem_cons_zero, List.setIfInBounds_toArray, List.set_cons_zero, List.set_cons_succ]
            refine wpAnyH_take (i := 27) (v := ?vb27) rfl (by kernel_rfl) (by kernel_rfl) (by kernel_rfl) (fun _ _ _ h => h) (Or.inl ⟨by kernel_rfl, ?hyb27⟩) (by assumption) ?restb27
            case hyb27 => (intro w hSw; (try dsimp only at hSw); go_simp; try with_reducible rfl)
            try simp only [Act.put, List.getElem_toArray, List.getElem_cons_succ, List.getElem_cons_zero, List.setIfInBounds_toArray, List.set_cons_zero, List.set_cons_succ]
            refine wpAnyH_take (i := 28) (v := ?vb28) rfl (by kernel_rfl) (by kernel_rfl) (by kernel_rfl) (fun _ _ _ h => h) (Or.inl ⟨by kernel_rfl, ?hyb28⟩) (by assumption) ?restb28
            case hyb28 => (intro w hSw; (try dsimp only at hSw); go_simp; try with_reducible rfl)
            try simp only [Act.put, List.getElem_toArray, List.getElem_cons_succ, List.getElem_cons_zero, List.setIfInBounds_toArray, List.set_cons_zero, List.set_cons_succ]
            refine wpAnyH_take (i := 29) (v := ?vb29) rfl (by kernel_rfl) (by kernel_rfl) (by kernel_rfl) (fun _ _ _ h => h) (Or.inl ⟨by kernel_rfl, ?hyb29⟩) (by assumption) ?restb29
            case hyb29 => (intro w hSw; (try dsimp only at hSw); go_simp; try with_reducible rfl)
            try simp only [Act.put, List.getElem_toArray, List.getElem_cons_succ, List.getElem_cons_zero, List.setIfInBounds_toArray, List.set_cons_zero, List.set_cons_succ]
            refine wpAnyH_take (i := 32) (v := ?vb32) rfl (by kernel_rfl) (by kernel_rfl) (by kernel_rfl) (fun _ _ _ h => h) (Or.inl ⟨by kernel_rfl, ?hyb32⟩) (by assumption) ?restb32
            case hyb32 => (intro w hSw; (try dsimp only at hSw); go_simp; try with_reducible rfl)
            try simp only [Act.put, List.getElem_toArray, List.getElem_cons_succ, List.getElem_cons_zero, List.setIfInBounds_toArray, List.set_cons_zero, List.set_cons_succ]
            refine wpAnyH_take (i := 33) (v := ?vb33) rfl (by kernel_rfl) (by kernel_rfl) (by kernel_rfl) (fun _ _ _ h => h) (Or.inl ⟨by kernel_rfl, ?hyb33⟩) (by assumption) ?restb33
            case hyb33 => (intro w hSw; (try dsimp only at hSw); go_simp; try with_reducible rfl)
            try simp only [Act.put, List.getElem_toArray, List.getElem_cons_succ, List.getElem_cons_zero, List.setIfInBounds_toArray, List.set_cons_zero, List.set_cons_succ]
            refine wpAnyH_take (i := 34) (v := ?vb34) rfl (by kernel_rfl) (by kernel_rfl) (by kernel_rfl) (fun _ _ _ h => h) (Or.inl ⟨by kernel_rfl, ?hyb34⟩) (by assumption) ?restb34
            case hyb34 => (intro w hSw; (try dsimp only at hSw); go_simp; try with_reducible rfl)
            try simp only [Act.put, List.getElem_toArray, List.getElem_cons_succ, List.getElem_cons_zero, List.setIfInBounds_toArray, List.set_cons_zero, List.set_cons_succ]
            refine wpAnyH_take (i := 35) (v := ?vb35) rfl (by kernel_rfl) (by kernel_rfl) (by kernel_rfl) (fun _ _ _ h => h) (Or.inl ⟨by kernel_rfl, ?hyb35⟩) (by assumption) ?restb35
            case hyb35 => (intro w hSw; (try dsimp only at hSw); go_simp; try with_reducible rfl)
            try simp only [Act.put, List.getElem_toArray, List.getElem_cons_succ, List.getElem_cons_zero, List.setIfInBounds_toArray, List.set_cons_zero, List.set_cons_succ]
            refine wpAnyH_take (i := 36) (v := ?vb36) rfl (by kernel_rfl) (by kernel_rfl) (by kernel_rfl) (fun _ _ _ h => h) (Or.inl ⟨by kernel_rfl, ?hyb36⟩) (by assumption) ?restb36
            case hyb36 => (intro w hSw; (try dsimp only at hSw); go_simp; try with_reducible rfl)
            try simp only [Act.put, List.getElem_toArray, List.getElem_cons_succ, List.getElem_cons_zero, List.setIfInBounds_toArray, List.set_cons_zero, List.set_cons_succ]
            refine wpAnyH_ready (rs := [30]) (by kernel_rfl) (by simp) ?_
            refine AllReadyH.cons rfl (fun K hK => ?_) AllReadyH.nil
            go_simp
            go_at_call 14; (with_reducible refine (AL.out _ (by assumption)).mono ?_); rintro q w10 ⟨aq, cq, rfl, hb10⟩; obtain ⟨⟨g0, g1, g2, g3, g4, g5⟩, g6⟩ := KC.out _ hb10
            refine hK.out _ _ (by (try dsimp only); go_keep) (fun hHeld => ?_)
            clear hK K
            try simp only [Act.put, List.getElem_toArray, List.getElem_cons_succ, List.getElem_cons_zero, List.setIfInBounds_toArray, List.set_cons_zero, List.set_cons_succ]
            refine wpAnyH_take (i := 31) (v := ?vb31) rfl (by kernel_rfl) (by kernel_rfl) (by kernel_rfl) (fun _ _ _ h => h) (Or.inl ⟨by kernel_rfl, ?hyb31⟩) (by assumption) ?restb31
            case hyb31 => (intro w hSw; (try dsimp only at hSw); go_simp; try with_reducible rfl)
            try simp only [Act.put, List.getElem_toArray, List.getElem_cons_succ, List.getElem_cons_zero, List.setIfInBounds_toArray, List.set_cons_zero, List.set_cons_succ]
            refine wpAnyH_take (i := 37) (v := ?vb37) rfl (by kernel_rfl) (by kernel_rfl) (by kernel_rfl) (fun _ _ _ h => h) (Or.inl ⟨by kernel_rfl, ?hyb37⟩) (by assumption) ?restb37
            case hyb37 => (intro w hSw; (try dsimp only at hSw); go_simp; try with_reducible rfl)
            try simp only [Act.put, List.getElem_toArray, List.getElem_cons_succ, List.getElem_cons_zero, List.setIfInBounds_toArray, List.set_cons_zero, List.set_cons_succ]
            refine wpAnyH_take (i := 38) (v := ?vb38) rfl (by kernel_rfl) (by kernel_rfl) (by kernel_rfl) (fun _ _ _ h => h) (Or.inl ⟨by kernel_rfl, ?hyb38⟩) (by assumption) ?restb38
            case hyb38 => (intro w hSw; (try dsimp only at hSw); go_simp; try with_reducible rfl)
            try simp only [Act.put, List.getElem_toArray, List.getElem_cons_succ, List.getElem_cons_zero, List.setIfInBounds_toArray, List.set_cons_zero, List.set_cons_succ]
            refine wpAnyH_done (by kernel_rfl) ?_ _
          go_wp2_with fail
          go_meet
          exact ⟨rfl, hb10⟩
        case rest =>
          obtain ⟨rfl, hb10⟩ := hcut
          have BX := Lib.hid (BO8.out.below hb10)
          have HX := Lib.hid (below_trans HB8.out hb10 HB8.out.size)
          have TX := Lib.hid (fun i (hi : i < rs'.length) => (TR.out i hi).below (Nat.le_refl _) hb10)
          have u0 := (hb10.cell (p := ⟨c, 0, none⟩) (block_lt_of_cell t0)).trans t0
          clear hb10 t0 TR BO8 HB8 KC AL B8D x0 x1 x2 x3 x4 x5 OX OA
          go_wp2_with fail
          refine (owner_any w.heap.size b v' ps' tid at' _ BX.out.tb LEN5).mono ?_
          rintro e w11 ⟨rfl, hb11⟩
          have BY := Lib.hid (BX.out.below hb11)
          have HY := Lib.hid (below_trans HX.out hb11 HX.out.size)
          have TY := Lib.hid (show ∀ i, i < rs'.length → RecAt w11 ga (i * 6) (rs'.getD i default) from fun i hi => (TX.out i hi).below (Nat.le_refl _) hb11)
          have v0 := (hb11.cell (p := ⟨c, 0, none⟩) (block_lt_of_cell u0)).trans u0
          obtain ⟨⟨g, ok⟩, hX2⟩ : ∃ X, ownOut ps' tid at' = X := ⟨_, rfl⟩
          have OW := Lib.hid hX2
          have OK := Lib.hid (show ok = hasAny rs' tid at' ∧ (ok = false → g = 0) from by
            have h := own_any ps' tid at'
            rw [hX2] at h
            exact ⟨h.1.trans (hasAny_perm BY.out.perm tid at'), h.2⟩)
          rw [hX2]
          dsimp only
          clear hX2 hb11 u0 BX HX TX
          go_wp2_with fail
          go_loopw [16, 109] (fun z i w' => ∃ j : Nat, j ≤ m ∧ z = .bool (hasAny (rs'.take j) tid at') ∧ i = .int .i64 j ∧ Below w11.heap.size w11 w') (fun _ i _ => m - (intOf i).toNat)
          case atStart => exact ⟨0, by omega, rfl, rfl, Below.refl _ _⟩
          case round =>
            obtain ⟨j, hj, rfl, rfl, hbj⟩ := hrel
            have HJ := Lib.hid hbj
            clear hbj
            by_cases hjn : j < m
            · have hjn' : (j : Int) < (m : Int) := by omega
              obtain ⟨c0, c1, c2, c3, c4, c5⟩ := (TY.out j (by have := HM.out; omega)).below (Nat.le_refl _) HJ.out
              have SN := Lib.hid (hasAny_snoc (rs := rs') (tid := tid) (at' := at') (k := j) (by have := HM.out; omega))
              obtain ⟨r, hrr⟩ : ∃ r, rs'.getD j default = r := ⟨_, rfl⟩
              rw [hrr] at c0 c1 c2 c3 c4 c5 SN
              obtain ⟨x, hx⟩ : ∃ x, hasAny (rs'.take j) tid at' = x := ⟨_, rfl⟩
              rw [hx] at SN ⊢
              clear hrr hx
              cases x with
              | true =>
                go_wp2_with fail
                go_roundw
                case rel => exact ⟨j + 1, by omega, by rw [SN.out]; rfl, by go_num, HJ.out.alloc HJ.out.size _⟩
                case measure => simp [intOf] <;> omega
              | false =>
                go_wp2_with fail
                refine (has_any r tid at' _).mono ?_
                rintro e w12 ⟨rfl, hb12⟩
                have K := Lib.hid (below_trans (HJ.out.alloc HJ.out.size _) hb12 (by rw [size_alloc]; have := HJ.out.size; omega))
                obtain ⟨y, hy⟩ : ∃ y, hasB r tid at' = y := ⟨_, rfl⟩
                rw [hy] at SN ⊢
                clear hb12 hy c0 c1 c2 c3 c4 c5
                go_wp2_with fail
                go_roundw
                case rel => exact ⟨j + 1, by omega, by rw [SN.out]; rfl, by go_num, K.out⟩
                case measure => simp [intOf] <;> omega
            · have hge2 : (m : Int) ≤ j := by omega
              have E0 : rs'.take j = rs' := List.take_of_length_le (by have := HM.out; omega)
              rw [E0, ← OK.out.1]
              have BZ := Lib.hid (BY.out.below HJ.out)
              have HZ := Lib.hid (below_trans HY.out HJ.out HY.out.size)
              have TZ := Lib.hid (show ∀ i, i < rs'.length → RecAt wr ga (i * 6) (rs'.getD i default) from fun i hi => (TY.out i hi).below (Nat.le_refl _) HJ.out)
              have z0 := (HJ.out.cell (p := ⟨c, 0, none⟩) (block_lt_of_cell v0)).trans v0
              have LX : rs'.length ≤ 1000 := by have := HM.out; omega
              clear hjn E0 HJ BY HY TY v0
              go_upto_region 21 with fail
              go_cut [149] (fun z wx => z = .bool false ∧ Below wr.heap.size wr wx)
              case first =>
                cases ok with
                | true =>
                  obtain ⟨i2, ⟨y0, y1, y2, y3, y4, y5⟩, hi2, hat2, hget2, hh2⟩ := own_at BZ.out.srt BZ.out.perm OW.out
                  have hi2' : (i2 : Int) < (m : Int) := by have := HM.out; omega
                  have hi2'' : i2 < m := by have := HM.out; omega
                  have rr := TZ.out i2 hi2
                  rw [hget2] at rr
                  obtain ⟨r0, r1, r2, r3, r4, r5⟩ := rr
                  simp only at r0 r1 r2 r3 r4 r5
                  have BZD : Below wr.heap.size wr wr.drew := (Below.refl _ _).drew
                  have KD := Lib.hid (show ∀ w', Below wr.heap.size wr w' → w'.cell? ⟨c, 0, none⟩ = some (.slice (some ⟨ga, 0, none⟩) m cp) ∧ w'.cell? ⟨ga, i2 * 6, none⟩ = some (.int .i64 y0) ∧ w'.cell? ⟨ga, i2 * 6 + 1, none⟩ = some (.int .i64 y1) ∧ w'.cell? ⟨ga, i2 * 6 + 2, none⟩ = some (.int .i64 y2) ∧ w'.cell? ⟨ga, i2 * 6 + 3, none⟩ = some (.bool y3) ∧ w'.cell? ⟨ga, i2 * 6 + 4, none⟩ = some (.int .i64 y4) ∧ w'.cell? ⟨ga, i2 * 6 + 5, none⟩ = some (.int .i64 y5) from fun w' hx => by
                    have hblk := block_lt_of_cell r0
                    have e : ∀ o, w'.cell? ⟨ga, o, none⟩ = wr.cell? ⟨ga, o, none⟩ := fun o => hx.cell (p := ⟨ga, o, none⟩) hblk
                    exact ⟨(hx.cell (p := ⟨c, 0, none⟩) (block_lt_of_cell z0)).trans z0, (e _).trans r0, (e _).trans r1, (e _).trans r2, (e _).trans r3, (e _).trans r4, (e _).trans r5⟩)
                  have AT := Lib.hid (show ∀ X, Below wr.heap.size wr X → Calls Try.prog 12 #[.pointer (some ⟨c, 0, none⟩), .int .i64 g] X (fun e w' => e = .returned (.int .i64 i2) ∧ Below wr.heap.size wr w') from fun X hx => (rat_any w.heap.size c _ rs' g X (BZ.out.below hx).rt LX).mono (by
                    rintro e w' ⟨rfl, hb⟩
                    exact ⟨by rw [hat2], below_trans hx hb hx.size⟩))
                  have HA := Lib.hid (show ∀ X, Below wr.heap.size wr X → Calls Try.prog 16 #[.agg #[.int .i64 y0, .int .i64 y1, .int .i64 y2, .bool y3, .int .i64 y4, .int .i64 y5], .int .i64 tid, .int .i64 at'] X (fun e w' => e = .returned (.bool true) ∧ Below wr.heap.size wr w') from fun X hx => (has_any ⟨y0, y1, y2, y3, y4, y5⟩ tid at' X).mono (by
                    rintro e w' ⟨rfl, hb⟩
                    exact ⟨by rw [hh2], below_trans hx hb hx.size⟩))
                  clear hat2 hget2 hh2 hi2
                  go_wp2_with fail
                  refine wp_region_held_drew (S := (fun w' => w'.cell? ⟨c, 0, none⟩ = some (.slice (some ⟨ga, 0, none⟩) m cp) ∧ w'.cell? ⟨ga, i2 * 6, none⟩ = some (.int .i64 y0) ∧ w'.cell? ⟨ga, i2 * 6 + 1, none⟩ = some (.int .i64 y1) ∧ w'.cell? ⟨ga, i2 * 6 + 2, none⟩ = some (.int .i64 y2) ∧ w'.cell? ⟨ga, i2 * 6 + 3, none⟩ = some (.bool y3) ∧ w'.cell? ⟨ga, i2 * 6 + 4, none⟩ = some (.int .i64 y4) ∧ w'.cell? ⟨ga, i2 * 6 + 5, none⟩ = some (.int .i64 y5))) (by kernel_rfl) (by (try dsimp only); go_keep) (fun hHeld => ?_)
                  refine wpAnyH_take (i := 0) (v := ?vc0) rfl (by kernel_rfl) (by kernel_rfl) (by kernel_rfl) (fun _ _ _ h => h) (Or.inl ⟨by kernel_rfl, ?hyc0⟩) (by assumption) ?restc0
                  case hyc0 => (intro w hSw; (try dsimp only at hSw); go_simp; try with_reducible rfl)
                  try simp only [Act.put, List.getElem_toArray, List.getElem_cons_succ, List.getElem_cons_zero, List.setIfInBounds_toArray, List.set_cons_zero, List.set_cons_succ]
                  refine wpAnyH_take (i := 1) (v := ?vc1) rfl (by kernel_rfl) (by kernel_rfl) (by kernel_rfl) (fun _ _ _ h => h) (Or.inl ⟨by kernel_rfl, ?hyc1⟩) (by assumption) ?restc1
                  case hyc1 => (intro w hSw; (try dsimp only at hSw); go_simp; try with_reducible rfl)
                  try simp only [Act.put, List.getElem_toArray, List.getElem_cons_succ, List.getElem_cons_zero, List.setIfInBounds_toArray, List.set_cons_zero, List.set_cons_succ]
                  refine wpAnyH_take (i := 2) (v := ?vc2) rfl (by kernel_rfl) (by kernel_rfl) (by kernel_rfl) (fun _ _ _ h => h) (Or.inl ⟨by kernel_rfl, ?hyc2⟩) (by assumption) ?restc2
                  case hyc2 => (intro w hSw; (try dsimp only at hSw); go_simp; try with_reducible rfl)
                  try simp only [Act.put, List.getElem_toArray, List.getElem_cons_succ, List.getElem_cons_zero, List.setIfInBounds_toArray, List.set_cons_zero, List.set_cons_succ]
                  refine wpAnyH_take (i := 3) (v := ?vc3) rfl (by kernel_rfl) (by kernel_rfl) (by kernel_rfl) (fun _ _ _ h => h) (Or.inl ⟨by kernel_rfl, ?hyc3⟩) (by assumption) ?restc3
                  case hyc3 => (intro w hSw; (try dsimp only at hSw); go_simp; try with_reducible rfl)
                  try simp only [Act.put, List.getElem_toArray, List.getElem_cons_succ, List.getElem_cons_zero, List.setIfInBounds_toArray, List.set_cons_zero, List.set_cons_succ]
                  refine wpAnyH_take (i := 4) (v := ?vc4) rfl (by kernel_rfl) (by kernel_rfl) (by kernel_rfl) (fun _ _ _ h => h) (Or.inl ⟨by kernel_rfl, ?hyc4⟩) (by assumption) ?restc4
                  case hyc4 => (intro w hSw; (try dsimp only at hSw); go_simp; try with_reducible rfl)
                  try simp only [Act.put, List.getElem_toArray, List.getElem_cons_succ, List.getElem_cons_zero, List.setIfInBounds_toArray, List.set_cons_zero, List.set_cons_succ]
                  refine wpAnyH_take (i := 5) (v := ?vc5) rfl (by kernel_rfl) (by kernel_rfl) (by kernel_rfl) (fun _ _ _ h => h) (Or.inl ⟨by kernel_rfl, ?hyc5⟩) (by assumption) ?restc5
                  case hyc5 => (intro w hSw; (try dsimp only at hSw); go_simp; try with_reducible rfl)
                  try simp only [Act.put, List.getElem_toArray, List.getElem_cons_succ, List.getElem_cons_zero, List.setIfInBounds_toArray, List.set_cons_zero, List.set_cons_succ]
                  refine wpAnyH_take (i := 6) (v := ?vc6) rfl (by kernel_rfl) (by kernel_rfl) (by kernel_rfl) (fun _ _ _ h => h) (Or.inl ⟨by kernel_rfl, ?hyc6⟩) (by assumption) ?restc6
                  case hyc6 => (intro w hSw; (try dsimp only at hSw); go_simp; try with_reducible rfl)
                  try simp only [Act.put, List.getElem_toArray, List.getElem_cons_succ, List.getElem_cons_zero, List.setIfInBounds_toArray, List.set_cons_zero, List.set_cons_succ]
                  refine wpAnyH_take (i := 7) (v := ?vc7) rfl (by kernel_rfl) (by kernel_rfl) (by kernel_rfl) (fun _ _ _ h => h) (Or.inl ⟨by kernel_rfl, ?hyc7⟩) (by assumption) ?restc7
                  case hyc7 => (intro w hSw; (try dsimp only at hSw); go_simp; try with_reducible rfl)
                  try simp only [Act.put, List.getElem_toArray, List.getElem_cons_succ, List.getElem_cons_zero, List.setIfInBounds_toArray, List.set_cons_zero, List.set_cons_succ]
                  refine wpAnyH_take (i := 8) (v := ?vc8) rfl (by kernel_rfl) (by kernel_rfl) (by kernel_rfl) (fun _ _ _ h => h) (Or.inl ⟨by kernel_rfl, ?hyc8⟩) (by assumption) ?restc8
                  case hyc8 => (intro w hSw; (try dsimp only at hSw); go_simp; try with_reducible rfl)
                  try simp only [Act.put, List.getElem_toArray, List.getElem_cons_succ, List.getElem_cons_zero, List.setIfInBounds_toArray, List.set_cons_zero, List.set_cons_succ]
                  refine wpAnyH_take (i := 9) (v := ?vc9) rfl (by kernel_rfl) (by kernel_rfl) (by kernel_rfl) (fun _ _ _ h => h) (Or.inl ⟨by kernel_rfl, ?hyc9⟩) (by assumption) ?restc9
                  case hyc9 => (intro w hSw; (try dsimp only at hSw); go_simp; try with_reducible rfl)
                  try simp only [Act.put, List.getElem_toArray, List.getElem_cons_succ, List.getElem_cons_zero, List.setIfInBounds_toArray, List.set_cons_zero, List.set_cons_succ]
                  refine wpAnyH_take (i := 10) (v := ?vc10) rfl (by kernel_rfl) (by kernel_rfl) (by kernel_rfl) (fun _ _ _ h => h) (Or.inl ⟨by kernel_rfl, ?hyc10⟩) (by assumption) ?restc10
                  case hyc10 => (intro w hSw; (try dsimp only at hSw); go_simp; try with_reducible rfl)
                  try simp only [Act.put, List.getElem_toArray, List.getElem_cons_succ, List.getElem_cons_zero, List.setIfInBounds_toArray, List.set_cons_zero, List.set_cons_succ]
                  refine wpAnyH_take (i := 11) (v := ?vc11) rfl (by kernel_rfl) (by kernel_rfl) (by kernel_rfl) (fun _ _ _ h => h) (Or.inl ⟨by kernel_rfl, ?hyc11⟩) (by assumption) ?restc11
                  case hyc11 => (intro w hSw; (try dsimp only at hSw); go_simp; try with_reducible rfl)
                  try simp only [Act.put, List.getElem_toArray, List.getElem_cons_succ, List.getElem_cons_zero, List.setIfInBounds_toArray, List.set_cons_zero, List.set_cons_succ]
                  refine wpAnyH_take (i := 15) (v := ?vc15) rfl (by kernel_rfl) (by kernel_rfl) (by kernel_rfl) (fun _ _ _ h => h) (Or.inl ⟨by kernel_rfl, ?hyc15⟩) (by assumption) ?restc15
                  case hyc15 => (intro w hSw; (try dsimp only at hSw); go_simp; try with_reducible rfl)
                  try simp only [Act.put, List.getElem_toArray, List.getElem_cons_succ, List.getElem_cons_zero, List.setIfInBounds_toArray, List.set_cons_zero, List.set_cons_succ]
                  refine wpAnyH_take (i := 16) (v := ?vc16) rfl (by kernel_rfl) (by kernel_rfl) (by kernel_rfl) (fun _ _ _ h => h) (Or.inl ⟨by kernel_rfl, ?hyc16⟩) (by assumption) ?restc16
                  case hyc16 => (intro w hSw; (try dsimp only at hSw); go_simp; try with_reducible rfl)
                  try simp only [Act.put, List.getElem_toArray, List.getElem_cons_succ, List.getElem_cons_zero, List.setIfInBounds_toArray, List.set_cons_zero, List.set_cons_succ]
                  refine wpAnyH_ready (rs := [12]) (by kernel_rfl) (by simp) ?_
                  refine AllReadyH.cons rfl (fun K hK => ?_) AllReadyH.nil
                  go_simp
                  go_at_call 12; (with_reducible refine (AT.out _ (by assumption)).mono ?_); rintro q w13 ⟨rfl, hb13⟩; obtain ⟨k0, k1, k2, k3, k4, k5, k6⟩ := KD.out _ hb13
                  refine hK.out _ _ (by (try dsimp only); go_keep) (fun hHeld => ?_)
                  clear hK K
                  try simp only [Act.put, List.getElem_toArray, List.getElem_cons_succ, List.getElem_cons_zero, List.setIfInBounds_toArray, List.set_cons_zero, List.set_cons_succ]
                  refine wpAnyH_take (i := 13) (v := ?vc13) rfl (by kernel_rfl) (by kernel_rfl) (by kernel_rfl) (fun _ _ _ h => h) (Or.inl ⟨by kernel_rfl, ?hyc13⟩) (by assumption) ?restc13
                  case hyc13 => (intro w hSw; (try dsimp only at hSw); go_simp; try with_reducible rfl)
                  try simp only [Act.put, List.getElem_toArray, List.getElem_cons_succ, List.getElem_cons_zero, List.setIfInBounds_toArray, List.set_cons_zero, List.set_cons_succ]
                  refine wpAnyH_take (i := 14) (v := ?vc14) rfl (by kernel_rfl) (by kernel_rfl) (by kernel_rfl) (fun _ _ _ h => h) (Or.inl ⟨by kernel_rfl, ?hyc14⟩) (by assumption) ?restc14
                  case hyc14 => (intro w hSw; (try dsimp only at hSw); go_simp; try with_reducible rfl)
                  try simp only [Act.put, List.getElem_toArray, List.getElem_cons_succ, List.getElem_cons_zero, List.setIfInBounds_toArray, List.set_cons_zero, List.set_cons_succ]
                  refine wpAnyH_ready (rs := [17]) (by kernel_rfl) (by simp) ?_
                  refine AllReadyH.cons rfl (fun K hK => ?_) AllReadyH.nil
                  go_simp
                  go_at_call 16; (with_reducible refine (HA.out _ (by assumption)).mono ?_); rintro q w14 ⟨rfl, hb14⟩; obtain ⟨l0, l1, l2, l3, l4, l5, l6⟩ := KD.out _ hb14
                  refine hK.out _ _ (by (try dsimp only); go_keep) (fun hHeld => ?_)
                  clear hK K
                  try simp only [Act.put, List.getElem_toArray, List.getElem_cons_succ, List.getElem_cons_zero, List.setIfInBounds_toArray, List.set_cons_zero, List.set_cons_succ]
                  refine wpAnyH_take (i := 18) (v := ?vc18) rfl (by kernel_rfl) (by kernel_rfl) (by kernel_rfl) (fun _ _ _ h => h) (Or.inl ⟨by kernel_rfl, ?hyc18⟩) (by assumption) ?restc18
                  case hyc18 => (intro w hSw; (try dsimp only at hSw); go_simp; try with_reducible rfl)
                  try simp only [Act.put, List.getElem_toArray, List.getElem_cons_succ, List.getElem_cons_zero, List.setIfInBounds_toArray, List.set_cons_zero, List.set_cons_succ]
                  refine wpAnyH_take (i := 19) (v := ?vc19) rfl (by kernel_rfl) (by kernel_rfl) (by kernel_rfl) (fun _ _ _ h => h) (Or.inl ⟨by kernel_rfl, ?hyc19⟩) (by assumption) ?restc19
                  case hyc19 => (intro w hSw; (try dsimp only at hSw); go_simp; try with_reducible rfl)
                  try simp only [Act.put, List.getElem_toArray, List.getElem_cons_succ, List.getElem_cons_zero, List.setIfInBounds_toArray, List.set_cons_zero, List.set_cons_succ]
                  refine wpAnyH_take (i := 20) (v := ?vc20) rfl (by kernel_rfl) (by kernel_rfl) (by kernel_rfl) (fun _ _ _ h => h) (Or.inl ⟨by kernel_rfl, ?hyc20⟩) (by assumption) ?restc20
                  case hyc20 => (intro w hSw; (try dsimp only at hSw); go_simp; try with_reducible rfl)
                  try simp only [Act.put, List.getElem_toArray, List.getElem_cons_succ, List.getElem_cons_zero, List.setIfInBounds_toArray, List.set_cons_zero, List.set_cons_succ]
                  refine wpAnyH_take (i := 21) (v := ?vc21) rfl (by kernel_rfl) (by kernel_rfl) (by kernel_rfl) (fun _ _ _ h => h) (Or.inl ⟨by kernel_rfl, ?hyc21⟩) (by assumption) ?restc21
                  case hyc21 => (intro w hSw; (try dsimp only at hSw); go_simp; try with_reducible rfl)
                  try simp only [Act.put, List.getElem_toArray, List.getElem_cons_succ, List.getElem_cons_zero, List.setIfInBounds_toArray, List.set_cons_zero, List.set_cons_succ]
                  refine wpAnyH_take (i := 22) (v := ?vc22) rfl (by kernel_rfl) (by kernel_rfl) (by kernel_rfl) (fun _ _ _ h => h) (Or.inl ⟨by kernel_rfl, ?hyc22⟩) (by assumption) ?restc22
                  case hyc22 => (intro w hSw; (try dsimp only at hSw); go_simp; try with_reducible rfl)
                  try simp only [Act.put, List.getElem_toArray, List.getElem_cons_succ, List.getElem_cons_zero, List.setIfInBounds_toArray, List.set_cons_zero, List.set_cons_succ]
                  refine wpAnyH_take (i := 23) (v := ?vc23) rfl (by kernel_rfl) (by kernel_rfl) (by kernel_rfl) (fun _ _ _ h => h) (Or.inl ⟨by kernel_rfl, ?hyc23⟩) (by assumption) ?restc23
                  case hyc23 => (intro w hSw; (try dsimp only at hSw); go_simp; try with_reducible rfl)
                  try simp only [Act.put, List.getElem_toArray, List.getElem_cons_succ, List.getElem_cons_zero, List.setIfInBounds_toArray, List.set_cons_zero, List.set_cons_succ]
                  refine wpAnyH_take (i := 24) (v := ?vc24) rfl (by kernel_rfl) (by kernel_rfl) (by kernel_rfl) (fun _ _ _ h => h) (Or.inl ⟨by kernel_rfl, ?hyc24⟩) (by assumption) ?restc24
                  case hyc24 => (intro w hSw; (try dsimp only at hSw); go_simp; try with_reducible rfl)
                  try simp only [Act.put, List.getElem_toArray, List.getElem_cons_succ, List.getElem_cons_zero, List.setIfInBounds_toArray, List.set_cons_zero, List.set_cons_succ]
                  refine wpAnyH_take (i := 25) (v := undef) rfl (by kernel_rfl) (by kernel_rfl) (by kernel_rfl) (fun _ _ _ h => h) (Or.inr ⟨by kernel_rfl, rfl⟩) (by assumption) ?_
                  try simp only [Act.put, List.getElem_toArray, List.getElem_cons_succ, List.getElem_cons_zero, List.setIfInBounds_toArray, List.set_cons_zero, List.set_cons_succ]
                  refine wpAnyH_take (i := 26) (v := undef) rfl (by kernel_rfl) (by kernel_rfl) (by kernel_rfl) (fun _ _ _ h => h) (Or.inr ⟨by kernel_rfl, rfl⟩) (by assumption) ?_
                  try simp only [Act.put, List.getElem_toArray, List.getElem_cons_succ, List.getElem_cons_zero, List.setIfInBounds_toArray, List.set_cons_zero, List.set_cons_succ]
                  refine wpAnyH_take (i := 27) (v := ?vc27) rfl (by kernel_rfl) (by kernel_rfl) (by kernel_rfl) (fun _ _ _ h => h) (Or.inl ⟨by kernel_rfl, ?hyc27⟩) (by assumption) ?restc27
                  case hyc27 => (intro w hSw; (try dsimp only at hSw); go_simp; try with_reducible rfl)
                  try simp only [Act.put, List.getElem_toArray, List.getElem_cons_succ, List.getElem_cons_zero, List.setIfInBounds_toArray, List.set_cons_zero, List.set_cons_succ]
                  refine wpAnyH_take (i := 28) (v := ?vc28) rfl (by kernel_rfl) (by kernel_rfl) (by kernel_rfl) (fun _ _ _ h => h) (Or.inl ⟨by kernel_rfl, ?hyc28⟩) (by assumption) ?restc28
                  case hyc28 => (intro w hSw; (try dsimp only at hSw); go_simp; try with_reducible rfl)
                  try simp only [Act.put, List.getElem_toArray, List.getElem_cons_succ, List.getElem_cons_zero, List.setIfInBounds_toArray, List.set_cons_zero, List.set_cons_succ]
                  refine wpAnyH_done (by kernel_rfl) ?_ _
                  go_wp2_with fail
                  go_meet
                  exact ⟨rfl, hb14⟩
                | false =>
                  obtain rfl := OK.out.2 rfl
                  go_wp2_with fail
                  refine wp_region_held_drew (S := (fun _ => True)) (by kernel_rfl) trivial (fun hHeld => ?_)
                  refine wpAnyH_take (i := 0) (v := ?vd0) rfl (by kernel_rfl) (by kernel_rfl) (by kernel_rfl) (fun _ _ _ h => h) (Or.inl ⟨by kernel_rfl, ?hyd0⟩) (by assumption) ?restd0
                  case hyd0 => (intro w hSw; (try dsimp only at hSw); go_simp; try with_reducible rfl)
                  try simp only [Act.put, List.getElem_toArray, List.getElem_cons_succ, List.getElem_cons_zero, List.setIfInBounds_toArray, List.set_cons_zero, List.set_cons_succ]
                  refine wpAnyH_take (i := 1) (v := ?vd1) rfl (by kernel_rfl) (by kernel_rfl) (by kernel_rfl) (fun _ _ _ h => h) (Or.inl ⟨by kernel_rfl, ?hyd1⟩) (by assumption) ?restd1
                  case hyd1 => (intro w hSw; (try dsimp only at hSw); go_simp; try with_reducible rfl)
                  try simp only [Act.put, List.getElem_toArray, List.getElem_cons_succ, List.getElem_cons_zero, List.setIfInBounds_toArray, List.set_cons_zero, List.set_cons_succ]
                  refine wpAnyH_take (i := 2) (v := ?vd2) rfl (by kernel_rfl) (by kernel_rfl) (by kernel_rfl) (fun _ _ _ h => h) (Or.inl ⟨by kernel_rfl, ?hyd2⟩) (by assumption) ?restd2
                  case hyd2 => (intro w hSw; (try dsimp only at hSw); go_simp; try with_reducible rfl)
                  try simp only [Act.put, List.getElem_toArray, List.getElem_cons_succ, List.getElem_cons_zero, List.setIfInBounds_toArray, List.set_cons_zero, List.set_cons_succ]
                  refine wpAnyH_take (i := 3) (v := ?vd3) rfl (by kernel_rfl) (by kernel_rfl) (by kernel_rfl) (fun _ _ _ h => h) (Or.inl ⟨by kernel_rfl, ?hyd3⟩) (by assumption) ?restd3
                  case hyd3 => (intro w hSw; (try dsimp only at hSw); go_simp; try with_reducible rfl)
                  try simp only [Act.put, List.getElem_toArray, List.getElem_cons_succ, List.getElem_cons_zero, List.setIfInBounds_toArray, List.set_cons_zero, List.set_cons_succ]
                  refine wpAnyH_take (i := 4) (v := ?vd4) rfl (by kernel_rfl) (by kernel_rfl) (by kernel_rfl) (fun _ _ _ h => h) (Or.inl ⟨by kernel_rfl, ?hyd4⟩) (by assumption) ?restd4
                  case hyd4 => (intro w hSw; (try dsimp only at hSw); go_simp; try with_reducible rfl)
                  try simp only [Act.put, List.getElem_toArray, List.getElem_cons_succ, List.getElem_cons_zero, List.setIfInBounds_toArray, List.set_cons_zero, List.set_cons_succ]
                  refine wpAnyH_take (i := 5) (v := ?vd5) rfl (by kernel_rfl) (by kernel_rfl) (by kernel_rfl) (fun _ _ _ h => h) (Or.inl ⟨by kernel_rfl, ?hyd5⟩) (by assumption) ?restd5
                  case hyd5 => (intro w hSw; (try dsimp only at hSw); go_simp; try with_reducible rfl)
                  try simp only [Act.put, List.getElem_toArray, List.getElem_cons_succ, List.getElem_cons_zero, List.setIfInBounds_toArray, List.set_cons_zero, List.set_cons_succ]
                  refine wpAnyH_take (i := 6) (v := undef) rfl (by kernel_rfl) (by kernel_rfl) (by kernel_rfl) (fun _ _ _ h => h) (Or.inr ⟨by kernel_rfl, rfl⟩) (by assumption) ?_
                  try simp only [Act.put, List.getElem_toArray, List.getElem_cons_succ, List.getElem_cons_zero, List.setIfInBounds_toArray, List.set_cons_zero, List.set_cons_succ]
                  refine wpAnyH_take (i := 7) (v := undef) rfl (by kernel_rfl) (by kernel_rfl) (by kernel_rfl) (fun _ _ _ h => h) (Or.inr ⟨by kernel_rfl, rfl⟩) (by assumption) ?_
                  try simp only [Act.put, List.getElem_toArray, List.getElem_cons_succ, List.getElem_cons_zero, List.setIfInBounds_toArray, List.set_cons_zero, List.set_cons_succ]
                  refine wpAnyH_take (i := 8) (v := undef) rfl (by kernel_rfl) (by kernel_rfl) (by kernel_rfl) (fun _ _ _ h => h) (Or.inr ⟨by kernel_rfl, rfl⟩) (by assumption) ?_
                  try simp only [Act.put, List.getElem_toArray, List.getElem_cons_succ, List.getElem_cons_zero, List.setIfInBounds_toArray, List.set_cons_zero, List.set_cons_succ]
                  refine wpAnyH_take (i := 9) (v := undef) rfl (by kernel_rfl) (by kernel_rfl) (by kernel_rfl) (fun _ _ _ h => h) (Or.inr ⟨by kernel_rfl, rfl⟩) (by assumption) ?_
                  try simp only [Act.put, List.getElem_toArray, List.getElem_cons_succ, List.getElem_cons_zero, List.setIfInBounds_toArray, List.set_cons_zero, List.set_cons_succ]
                  refine wpAnyH_take (i := 10) (v := undef) rfl (by kernel_rfl) (by kernel_rfl) (by kernel_rfl) (fun _ _ _ h => h) (Or.inr ⟨by kernel_rfl, rfl⟩) (by assumption) ?_
                  try simp only [Act.put, List.getElem_toArray, List.getElem_cons_succ, List.getElem_cons_zero, List.setIfInBounds_toArray, List.set_cons_zero, List.set_cons_succ]
                  refine wpAnyH_take (i := 11) (v := undef) rfl (by kernel_rfl) (by kernel_rfl) (by kernel_rfl) (fun _ _ _ h => h) (Or.inr ⟨by kernel_rfl, rfl⟩) (by assumption) ?_
                  try simp only [Act.put, List.getElem_toArray, List.getElem_cons_succ, List.getElem_cons_zero, List.setIfInBounds_toArray, List.set_cons_zero, List.set_cons_succ]
                  refine wpAnyH_take (i := 12) (v := undef) rfl (by kernel_rfl) (by kernel_rfl) (by kernel_rfl) (fun _ _ _ h => h) (Or.inr ⟨by kernel_rfl, rfl⟩) (by assumption) ?_
                  try simp only [Act.put, List.getElem_toArray, List.getElem_cons_succ, List.getElem_cons_zero, List.setIfInBounds_toArray, List.set_cons_zero, List.set_cons_succ]
                  refine wpAnyH_take (i := 13) (v := undef) rfl (by kernel_rfl) (by kernel_rfl) (by kernel_rfl) (fun _ _ _ h => h) (Or.inr ⟨by kernel_rfl, rfl⟩) (by assumption) ?_
                  try simp only [Act.put, List.getElem_toArray, List.getElem_cons_succ, List.getElem_cons_zero, List.setIfInBounds_toArray, List.set_cons_zero, List.set_cons_succ]
                  refine wpAnyH_take (i := 14) (v := undef) rfl (by kernel_rfl) (by kernel_rfl) (by kernel_rfl) (fun _ _ _ h => h) (Or.inr ⟨by kernel_rfl, rfl⟩) (by assumption) ?_
                  try simp only [Act.put, List.getElem_toArray, List.getElem_cons_succ, List.getElem_cons_zero, List.setIfInBounds_toArray, List.set_cons_zero, List.set_cons_succ]
                  refine wpAnyH_take (i := 15) (v := undef) rfl (by kernel_rfl) (by kernel_rfl) (by kernel_rfl) (fun _ _ _ h => h) (Or.inr ⟨by kernel_rfl, rfl⟩) (by assumption) ?_
                  try simp only [Act.put, List.getElem_toArray, List.getElem_cons_succ, List.getElem_cons_zero, List.setIfInBounds_toArray, List.set_cons_zero, List.set_cons_succ]
                  refine wpAnyH_take (i := 16) (v := undef) rfl (by kernel_rfl) (by kernel_rfl) (by kernel_rfl) (fun _ _ _ h => h) (Or.inr ⟨by kernel_rfl, rfl⟩) (by assumption) ?_
                  try simp only [Act.put, List.getElem_toArray, List.getElem_cons_succ, List.getElem_cons_zero, List.setIfInBounds_toArray, List.set_cons_zero, List.set_cons_succ]
                  refine wpAnyH_take (i := 17) (v := undef) rfl (by kernel_rfl) (by kernel_rfl) (by kernel_rfl) (fun _ _ _ h => h) (Or.inr ⟨by kernel_rfl, rfl⟩) (by assumption) ?_
                  try simp only [Act.put, List.getElem_toArray, List.getElem_cons_succ, List.getElem_cons_zero, List.setIfInBounds_toArray, List.set_cons_zero, List.set_cons_succ]
                  refine wpAnyH_take (i := 18) (v := undef) rfl (by kernel_rfl) (by kernel_rfl) (by kernel_rfl) (fun _ _ _ h => h) (Or.inr ⟨by kernel_rfl, rfl⟩) (by assumption) ?_
                  try simp only [Act.put, List.getElem_toArray, List.getElem_cons_succ, List.getElem_cons_zero, List.setIfInBounds_toArray, List.set_cons_zero, List.set_cons_succ]
                  refine wpAnyH_take (i := 19) (v := ?vd19) rfl (by kernel_rfl) (by kernel_rfl) (by kernel_rfl) (fun _ _ _ h => h) (Or.inl ⟨by kernel_rfl, ?hyd19⟩) (by assumption) ?restd19
                  case hyd19 => (intro w hSw; (try dsimp only at hSw); go_simp; try with_reducible rfl)
                  try simp only [Act.put, List.getElem_toArray, List.getElem_cons_succ, List.getElem_cons_zero, List.setIfInBounds_toArray, List.set_cons_zero, List.set_cons_succ]
                  refine wpAnyH_take (i := 20) (v := ?vd20) rfl (by kernel_rfl) (by kernel_rfl) (by kernel_rfl) (fun _ _ _ h => h) (Or.inl ⟨by kernel_rfl, ?hyd20⟩) (by assumption) ?restd20
                  case hyd20 => (intro w hSw; (try dsimp only at hSw); go_simp; try with_reducible rfl)
                  try simp only [Act.put, List.getElem_toArray, List.getElem_cons_succ, List.getElem_cons_zero, List.setIfInBounds_toArray, List.set_cons_zero, List.set_cons_succ]
                  refine wpAnyH_take (i := 21) (v := ?vd21) rfl (by kernel_rfl) (by kernel_rfl) (by kernel_rfl) (fun _ _ _ h => h) (Or.inl ⟨by kernel_rfl, ?hyd21⟩) (by assumption) ?restd21
                  case hyd21 => (intro w hSw; (try dsimp only at hSw); go_simp; try with_reducible rfl)
                  try simp only [Act.put, List.getElem_toArray, List.getElem_cons_succ, List.getElem_cons_zero, List.setIfInBounds_toArray, List.set_cons_zero, List.set_cons_succ]
                  refine wpAnyH_take (i := 22) (v := ?vd22) rfl (by kernel_rfl) (by kernel_rfl) (by kernel_rfl) (fun _ _ _ h => h) (Or.inl ⟨by kernel_rfl, ?hyd22⟩) (by assumption) ?restd22
                  case hyd22 => (intro w hSw; (try dsimp only at hSw); go_simp; try with_reducible rfl)
                  try simp only [Act.put, List.getElem_toArray, List.getElem_cons_succ, List.getElem_cons_zero, List.setIfInBounds_toArray, List.set_cons_zero, List.set_cons_succ]
                  refine wpAnyH_take (i := 23) (v := ?vd23) rfl (by kernel_rfl) (by kernel_rfl) (by kernel_rfl) (fun _ _ _ h => h) (Or.inl ⟨by kernel_rfl, ?hyd23⟩) (by assumption) ?restd23
                  case hyd23 => (intro w hSw; (try dsimp only at hSw); go_simp; try with_reducible rfl)
                  try simp only [Act.put, List.getElem_toArray, List.getElem_cons_succ, List.getElem_cons_zero, List.setIfInBounds_toArray, List.set_cons_zero, List.set_cons_succ]
                  refine wpAnyH_take (i := 24) (v := ?vd24) rfl (by kernel_rfl) (by kernel_rfl) (by kernel_rfl) (fun _ _ _ h => h) (Or.inl ⟨by kernel_rfl, ?hyd24⟩) (by assumption) ?restd24
                  case hyd24 => (intro w hSw; (try dsimp only at hSw); go_simp; try with_reducible rfl)
                  try simp only [Act.put, List.getElem_toArray, List.getElem_cons_succ, List.getElem_cons_zero, List.setIfInBounds_toArray, List.set_cons_zero, List.set_cons_succ]
                  refine wpAnyH_take (i := 25) (v := ?vd25) rfl (by kernel_rfl) (by kernel_rfl) (by kernel_rfl) (fun _ _ _ h => h) (Or.inl ⟨by kernel_rfl, ?hyd25⟩) (by assumption) ?restd25
                  case hyd25 => (intro w hSw; (try dsimp only at hSw); go_simp; try with_reducible rfl)
                  try simp only [Act.put, List.getElem_toArray, List.getElem_cons_succ, List.getElem_cons_zero, List.setIfInBounds_toArray, List.set_cons_zero, List.set_cons_succ]
                  refine wpAnyH_take (i := 26) (v := ?vd26) rfl (by kernel_rfl) (by kernel_rfl) (by kernel_rfl) (fun _ _ _ h => h) (Or.inl ⟨by kernel_rfl, ?hyd26⟩) (by assumption) ?restd26
                  case hyd26 => (intro w hSw; (try dsimp only at hSw); go_simp; try with_reducible rfl)
                  try simp only [Act.put, List.getElem_toArray, List.getElem_cons_succ, List.getElem_cons_zero, List.setIfInBounds_toArray, List.set_cons_zero, List.set_cons_succ]
                  refine wpAnyH_take (i := 27) (v := ?vd27) rfl (by kernel_rfl) (by kernel_rfl) (by kernel_rfl) (fun _ _ _ h => h) (Or.inl ⟨by kernel_rfl, ?hyd27⟩) (by assumption) ?restd27
                  case hyd27 => (intro w hSw; (try dsimp only at hSw); go_simp; try with_reducible rfl)
                  try simp only [Act.put, List.getElem_toArray, List.getElem_cons_succ, List.getElem_cons_zero, List.setIfInBounds_toArray, List.set_cons_zero, List.set_cons_succ]
                  refine wpAnyH_take (i := 28) (v := ?vd28) rfl (by kernel_rfl) (by kernel_rfl) (by kernel_rfl) (fun _ _ _ h => h) (Or.inl ⟨by kernel_rfl, ?hyd28⟩) (by assumption) ?restd28
                  case hyd28 => (intro w hSw; (try dsimp only at hSw); go_simp; try with_reducible rfl)
                  try simp only [Act.put, List.getElem_toArray, List.getElem_cons_succ, List.getElem_cons_zero, List.setIfInBounds_toArray, List.set_cons_zero, List.set_cons_succ]
                  refine wpAnyH_done (by kernel_rfl) ?_ _
                  go_wp2_with fail
                  go_meet
                  exact ⟨rfl, (Below.refl _ _).drew⟩
              case rest =>
                obtain ⟨rfl, hb15⟩ := hcut
                have BE := Lib.hid (BZ.out.below hb15)
                have HE := Lib.hid (below_trans HZ.out hb15 HZ.out.size)
                clear hb15
                go_wp2_with fail
                go_roundw
                case rel => exact ⟨k + 1, by omega, by go_num, ⟨_, _, _, _, BE.out, LN5.out⟩, HE.out⟩
                case measure => simp [intOf] <;> omega
      · have hge : (n : Int) ≤ k := by omega
        clear hlt LEN2
        go_wp2_with fail
        refine (all_any w.heap.size b v ps wr BO.out.tb (by omega)).mono ?_
        rintro e w2 ⟨va, rfl, hr, hb2⟩
        obtain ⟨aa, ca, rfl, hca⟩ := hr
        obtain ⟨N, hN⟩ : ∃ N, ps.length = N := ⟨_, rfl⟩
        rw [hN] at LEN
        have HNP := Lib.hid hN
        have HCA := Lib.hid hca
        have BO2 := Lib.hid (BO.out.below hb2)
        have HB2 := Lib.hid (below_trans HB.out hb2 HB.out.size)
        obtain ⟨ga, cp, rfl, t0, tr⟩ := BO2.out.rt.cells
        obtain ⟨m, hm⟩ : ∃ m, rs.length = m := ⟨_, rfl⟩
        rw [hm] at t0 BO2
        have HM := Lib.hid hm
        have T0 := Lib.hid t0
        have TR := Lib.hid tr
        rw [hN]
        clear hN hca hb2 BO HB hm tr t0
        go_wp2_with fail
        go_loopw [19, 154] (fun z i w' => ∃ j : Nat, j ≤ N ∧ z = .int .i64 (lastG ps j) ∧ i = .int .i64 j ∧ Below w2.heap.size w2 w') (fun _ i _ => N - (intOf i).toNat)
        case atStart => exact ⟨0, by omega, rfl, rfl, Below.refl _ _⟩
        case round =>
          obtain ⟨j, hj, rfl, rfl, hbj⟩ := hrel
          have HJ := Lib.hid hbj
          clear hbj
          by_cases hjn : j < N
          · have hjn' : (j : Int) < (N : Int) := by omega
            obtain ⟨b2, o2, rfl, hcc⟩ := HCA.out (by have := HNP.out; omega)
            obtain ⟨c0, c1, c2, c3, c4, c5⟩ := (hcc j (by have := HNP.out; omega)).below (Nat.le_refl _) HJ.out
            obtain ⟨i, hi, hat, hget⟩ := here_at BO2.out.srt BO2.out.perm (j := j) (by have := HNP.out; omega)
            have LL := Lib.hid (last_lt BO2.out.srt BO2.out.nn (j := j) (by have := HNP.out; omega))
            have hi' : (i : Int) < (m : Int) := by have := HM.out; omega
            have hi'' : i < m := by have := HM.out; omega
            have GJ := Lib.hid (show lastG ps (j + 1) = gAt ps j from rfl)
            have rr := (TR.out i hi).below (Nat.le_refl _) HJ.out
            have ct := (HJ.out.cell (p := ⟨c, 0, none⟩) (block_lt_of_cell T0.out)).trans T0.out
            rw [hget] at rr
            obtain ⟨⟨a0, a1, a2, a3, a4, a5⟩, hrr⟩ : ∃ r, ps.getD j default = r := ⟨_, rfl⟩
            have hg : gAt ps j = a0 := by unfold gAt; rw [hrr]
            rw [hrr] at c0 c1 c2 c3 c4 c5 rr
            rw [hg] at hat LL GJ
            obtain ⟨la, hla⟩ : ∃ la, lastG ps j = la := ⟨_, rfl⟩
            rw [hla] at LL ⊢
            have hlt2 : la < a0 := LL.out
            have hle2 : ¬ (a0 ≤ la) := by omega
            have hle3 : decide (a0 ≤ la) = false := decide_eq_false hle2
            obtain ⟨r0, r1, r2, r3, r4, r5⟩ := rr
            simp only at c0 c1 c2 c3 c4 c5 r0 r1 r2 r3 r4 r5
            obtain ⟨W1, hW1⟩ : ∃ W1, wr.alloc (.cells #[.int .i64 a0, .int .i64 a1, .int .i64 a2, .bool a3, .int .i64 a4, .int .i64 a5] 32) = W1 := ⟨_, rfl⟩
            have BW1 : Below wr.heap.size wr W1 := by rw [← hW1]; exact (Below.refl _ _).alloc (Nat.le_refl _) _
            have S1 : W1.heap[wr.heap.size]? = some (.cells #[.int .i64 a0, .int .i64 a1, .int .i64 a2, .bool a3, .int .i64 a4, .int .i64 a5] 32 (0, 0)) := by rw [← hW1]; exact heap_alloc_new wr _
            have BO3 := Lib.hid ((BO2.out.below HJ.out).below BW1)
            have HJ1 := Lib.hid (below_trans HJ.out BW1 HJ.out.size)
            have e0 := (BW1.cell (p := ⟨ga, i * 6, none⟩) (block_lt_of_cell r0)).trans r0
            have ec := (BW1.cell (p := ⟨c, 0, none⟩) (block_lt_of_cell ct)).trans ct
            have hblk := block_lt_of_cell r0
            have ee : ∀ o, W1.cell? ⟨ga, o, none⟩ = wr.cell? ⟨ga, o, none⟩ := fun o => BW1.cell (p := ⟨ga, o, none⟩) hblk
            have KC := Lib.hid (show ∀ w', Below W1.heap.size W1 w' → (w'.cell? ⟨wr.heap.size, 0, none⟩ = some (.int .i64 a0) ∧ w'.cell? ⟨wr.heap.size, 1, none⟩ = some (.int .i64 a1) ∧ w'.cell? ⟨wr.heap.size, 2, none⟩ = some (.int .i64 a2) ∧ w'.cell? ⟨wr.heap.size, 3, none⟩ = some (.bool a3) ∧ w'.cell? ⟨wr.heap.size, 4, none⟩ = some (.int .i64 a4) ∧ w'.cell? ⟨wr.heap.size, 5, none⟩ = some (.int .i64 a5)) ∧ w'.cell? ⟨c, 0, none⟩ = some (.slice (some ⟨ga, 0, none⟩) m cp) ∧ w'.cell? ⟨ga, i * 6, none⟩ = some (.int .i64 a0) ∧ w'.cell? ⟨ga, i * 6 + 1, none⟩ = some (.int .i64 a1) ∧ w'.cell? ⟨ga, i * 6 + 2, none⟩ = some (.int .i64 a2) ∧ w'.cell? ⟨ga, i * 6 + 3, none⟩ = some (.bool a3) ∧ w'.cell? ⟨ga, i * 6 + 4, none⟩ = some (.int .i64 a4) ∧ w'.cell? ⟨ga, i * 6 + 5, none⟩ = some (.int .i64 a5) from fun w' hx => by
              have hb' := block_lt_of_cell e0
              have e : ∀ o, w'.cell? ⟨ga, o, none⟩ = wr.cell? ⟨ga, o, none⟩ := fun o => (hx.cell (p := ⟨ga, o, none⟩) hb').trans (ee o)
              exact ⟨rec_cells ((hx.block _ (lt_of_heap S1)).trans S1), (hx.cell (p := ⟨c, 0, none⟩) (block_lt_of_cell ec)).trans ec, (e _).trans r0, (e _).trans r1, (e _).trans r2, (e _).trans r3, (e _).trans r4, (e _).trans r5⟩)
            have AT := Lib.hid (show ∀ X, Below W1.heap.size W1 X → Calls Try.prog 12 #[.pointer (some ⟨c, 0, none⟩), .int .i64 a0] X (fun e w' => e = .returned (.int .i64 i) ∧ Below W1.heap.size W1 w') from fun X hx => (rat_any w.heap.size c _ rs a0 X (BO3.out.below hx).rt (by have := HM.out; have := HNP.out; have := BO2.out.perm.length_eq; omega)).mono (by
              rintro e w' ⟨rfl, hb⟩
              exact ⟨by rw [hat], below_trans hx hb hx.size⟩))
            have LR := Lib.hid (show ∀ X, Below W1.heap.size W1 X → Calls Try.prog 13 #[.agg #[.int .i64 a0, .int .i64 a1, .int .i64 a2, .bool a3, .int .i64 a4, .int .i64 a5]] X (fun e w' => e = .returned (.agg #[.int .i64 a0, .int .i64 a1, .int .i64 a2, .bool a3, .int .i64 a4, .int .i64 a5]) ∧ Below W1.heap.size W1 w') from fun X hx => (lref_any ⟨a0, a1, a2, a3, a4, a5⟩ X).mono (by
              rintro e w' ⟨rfl, hb⟩
              exact ⟨rfl, below_trans hx hb hx.size⟩))
            have HW1 := Lib.hid hW1
            clear hW1 S1 BW1 ee e0 ec r0 r1 r2 r3 r4 r5 ct hat hget hrr hg hla LL hcc hblk hi
            go_upto_region 28 with fail
            rw [HW1.out]
            have B1D : Below W1.heap.size W1 W1.drew := (Below.refl _ _).drew
            obtain ⟨⟨x0, x1, x2, x3, x4, x5⟩, x6, z0, z1, z2, z3, z4, z5⟩ := KC.out W1 (Below.refl _ _)
            go_region_held3 (fun w' => (w'.cell? ⟨wr.heap.size, 0, none⟩ = some (.int .i64 a0) ∧ w'.cell? ⟨wr.heap.size, 1, none⟩ = some (.int .i64 a1) ∧ w'.cell? ⟨wr.heap.size, 2, none⟩ = some (.int .i64 a2) ∧ w'.cell? ⟨wr.heap.size, 3, none⟩ = some (.bool a3) ∧ w'.cell? ⟨wr.heap.size, 4, none⟩ = some (.int .i64 a4) ∧ w'.cell? ⟨wr.heap.size, 5, none⟩ = some (.int .i64 a5)) ∧ w'.cell? ⟨c, 0, none⟩ = some (.slice (some ⟨ga, 0, none⟩) m cp) ∧ w'.cell? ⟨ga, i * 6, none⟩ = some (.int .i64 a0) ∧ w'.cell? ⟨ga, i * 6 + 1, none⟩ = some (.int .i64 a1) ∧ w'.cell? ⟨ga, i * 6 + 2, none⟩ = some (.int .i64 a2) ∧ w'.cell? ⟨ga, i * 6 + 3, none⟩ = some (.bool a3) ∧ w'.cell? ⟨ga, i * 6 + 4, none⟩ = some (.int .i64 a4) ∧ w'.cell? ⟨ga, i * 6 + 5, none⟩ = some (.int .i64 a5)) (go_keep)
              (first | (go_at_call 12; (with_reducible refine (AT.out _ (by assumption)).mono ?_); (try clear hb9); rintro q w9 ⟨rfl, hb9⟩; obtain ⟨⟨y0, y1, y2, y3, y4, y5⟩, y6, v0, v1, v2, v3, v4, v5⟩ := KC.out _ hb9) | (go_at_call 13; (with_reducible refine (LR.out _ (by assumption)).mono ?_); rintro q w10 ⟨rfl, hb10⟩; obtain ⟨⟨y0, y1, y2, y3, y4, y5⟩, y6, v0, v1, v2, v3, v4, v5⟩ := KC.out _ hb10))
            have BE := Lib.hid (BO3.out.below (show Below W1.heap.size W1 _ by assumption))
            have HE := Lib.hid (below_trans HJ1.out (show Below W1.heap.size W1 _ by assumption) HJ1.out.size)
            clear KC AT LR B1D
            go_wp2_with fail
            go_roundw
            case rel => exact ⟨j + 1, by omega, by rw [GJ.out], by go_num, HE.out⟩
            case measure => simp [intOf] <;> omega
          · have hge2 : (N : Int) ≤ j := by omega
            have HE := Lib.hid (below_trans HB2.out HJ.out HB2.out.size)
            clear hjn
            go_wp2_with fail
            refine (turns_any _).mono ?_
            rintro e w3 ⟨rfl, hb3⟩
            have B3 := Lib.hid (below_trans HE.out hb3 HE.out.size)
            clear hb3
            go_wp2_with fail
            go_ret
            exact ⟨rfl, B3.out⟩
end Go.Proofs.Ytmhonibalgddcaa

