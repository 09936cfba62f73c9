
/-
  The reference of layer 5: number, list.
  The reference's Decode of layer 5, plainly: as sheet.Decode.
  The reference of layer 5: where Decode stands.
-/
import Derived.Test.YtpefjcmaggimhaaSheM
namespace Go.Proofs.Ytpefjcmaggimhaa
open Go.RowKit
set_option linter.unusedVariables false
set_option linter.unusedSimpArgs false
set_option maxRecDepth 100000

/-- How far was read. -/
structure TpAt (s l : List UInt8) (z : Nat) (g : Nat) (w : World) : Prop where
  blk : w.heap[g]? = some (Obj.cells #[bs s, .int .i64 z] 80 (0, 0))
  drop : l = s.drop z
  le : z ≤ s.length
theorem TpAt.gr {s l : List UInt8} {z g : Nat} {w w' : World} (h : TpAt s l z g w) {row : Option Nat} (hg : w.grownBy w' row) (hne : some g ≠ row) : TpAt s l z g w' := ⟨(hg.block _ (lt_of_heap h.blk) hne).trans h.blk, h.drop, h.le⟩
theorem TpAt.below {s l : List UInt8} {z g : Nat} {w w' : World} (h : TpAt s l z g w) (hB : Below w.heap.size w w') : TpAt s l z g w' := h.gr (gr_below hB none) (by simp)
def TNumPost (s l : List UInt8) (z g : Nat) (w : World) (r : Ending) (w' : World) : Prop := r = .returned (.int .i64 (numV l)) ∧ TpAt s (numR l) (z + numZ l) g w' ∧ w.grownBy w' (some g)
set_option maxHeartbeats 1000000 in
theorem tnumber_any (s l : List UInt8) (z g : Nat) (w : World) (h : TpAt s l z g w) (hl : s.length ≤ 1000000) : Calls Try.prog 40 #[.pointer (some ⟨g, 0, none⟩)] w (TNumPost s l z g w) := by
  have HL := Lib.hid h
  have hd := h.drop
  have hle := h.le
  have hll : l.length ≤ 140737488351232 := by rw [hd, List.length_drop]; omega
  have TK : Hid (∀ w : World, Calls Try.prog 68 #[bs l] w fun r w' => r = .returned (.tuple #[.agg #[.int .i64 (takV l), .int .i64 (takZ l)], .int .i64 (takE l)]) ∧ Below w.heap.size w w') := Lib.hid (fun w => ref_take_any l w hll)
  have hor := takE_or l
  obtain ⟨q0, q1, qf⟩ := two_cells h.blk
  have ND := num_drop l
  have ZB : takE l = 0 → 0 ≤ takZ l ∧ takZ l ≤ 140737488351232 := fun he => by
    have h1 : numZ l = (takZ l).toNat := by unfold numZ; rw [if_pos he]
    have h2 := ND.2
    refine ⟨?_, by omega⟩
    unfold takZ
    split <;> omega
  have N0 := Lib.hid (show numV l = if takE l = 0 then takV l else -1 from rfl)
  have N1 := Lib.hid (show numZ l = if takE l = 0 then (takZ l).toNat else 0 from rfl)
  have RN := Lib.hid (show numR l = s.drop (z + numZ l) ∧ z + numZ l ≤ s.length by
    refine ⟨by rw [ND.1, hd, List.drop_drop], ?_⟩
    have h2 := ND.2
    rw [hd, List.length_drop] at h2
    rw [hd]; omega)
  obtain ⟨e, he⟩ : ∃ e, takE l = e := ⟨_, rfl⟩
  obtain ⟨v, hv⟩ : ∃ e, takV l = e := ⟨_, rfl⟩
  obtain ⟨u, hu⟩ : ∃ e, takZ l = e := ⟨_, rfl⟩
  rw [he, hv, hu] at TK
  rw [he] at hor N0 N1 ZB
  rw [hv] at N0
  rw [hu] at N1 ZB
  rw [hd] at TK
  have NV := Lib.hid (show numV l = numV (s.drop z) by rw [← hd])
  clear h he hv hu ND
  have hz0 : (z : Int) ≤ s.length := by omega
  have hz9 : (z : Int) ≤ 1000000 := by omega
  have hgl := lt_of_heap HL.out.blk
  have hne : ¬ g = w.heap.size := by omega
  have hne2 : ¬ w.heap.size = g := by omega
  go_enter Try.func40, Try.ntmps40
  go_wp2_with fail
  go_region_held3 (fun w' => w'.cell? ⟨g, 0, none⟩ = some (bs s) ∧ w'.cell? ⟨g, 1, none⟩ = some (.int .i64 z)) (go_keep)
    (first | (go_at_call 68; (with_reducible refine (TK.out _).mono ?_); rintro r w1 ⟨rfl, hB1⟩; have k0 := hB1.cell (p := ⟨g, 0, none⟩) (by simp; omega); have k1 := hB1.cell (p := ⟨g, 1, none⟩) (by simp; omega); have k2 := fun h => hB1.cell (p := ⟨w.heap.size, 0, none⟩) h; (try simp at k2); have k3 := fun h => hB1.cell (p := ⟨w.heap.size, 1, none⟩) h; (try simp at k3); have k4 := fun h => hB1.frozen (p := ⟨w.heap.size, 0, none⟩) h; (try simp at k4); have k5 := fun h => hB1.frozen (p := ⟨w.heap.size, 1, none⟩) h; (try simp at k5); have B1 := Lib.hid hB1; clear hB1))
  all_goals
    first
    | (
      obtain ⟨w2, hw2⟩ : ∃ x, (w1.setCell ⟨w.heap.size, 0, none⟩ (.int .i64 v)).setCell ⟨w.heap.size, 1, none⟩ (.int .i64 u) = x := ⟨_, rfl⟩
      rw [hw2]
      have BX : Below w.heap.size w w1 := ((below1 w _).drew).trans (B1.out.mono (by simp))
      have XH : w1.heap[w.heap.size]? = some (Obj.cells #[.int .i64 0, .int .i64 0] 112 (0, 0)) := (B1.out.block _ (by simp)).trans (heap_alloc_new w _)
      have B2 := Lib.hid (show Below w.heap.size w w2 from by rw [← hw2]; exact (BX.setCell (Nat.le_refl _) _).setCell (Nat.le_refl _) _)
      have X2 := Lib.hid (show w2.heap[w.heap.size]? = some (Obj.cells #[.int .i64 v, .int .i64 u] 112 (0, 0)) from by
        rw [← hw2, heap_setCell_same _ _ 1 _ _ _ (heap_setCell_same _ _ 0 _ _ _ XH)]; rfl)
      clear XH
      )
    | (
      obtain ⟨w2, hw2⟩ : ∃ x, w1.alloc (Obj.cells #[.int .i64 v, .int .i64 u] 112) = x := ⟨_, rfl⟩
      rw [hw2]
      have BX : Below w.heap.size w w1 := (Below.refl w.heap.size w).drew.trans B1.out
      have hneA : ¬ g = w1.heap.size := by have := BX.size; omega
      have hneB : ¬ w1.heap.size = g := by have := BX.size; omega
      have B2 := Lib.hid (show Below w.heap.size w w2 from by rw [← hw2]; exact BX.alloc BX.size _)
      have X2 := Lib.hid (show w2.heap[w1.heap.size]? = some (Obj.cells #[.int .i64 v, .int .i64 u] 112 (0, 0)) from by rw [← hw2]; exact heap_alloc_new _ _)
      )
    have T2 := Lib.hid (HL.out.below B2.out)
    clear hw2 BX B1 q0 q1 qf
    obtain ⟨q0, q1, qf⟩ := two_cells T2.out.blk
    obtain ⟨x0, x1, xf⟩ := two_cells X2.out
    rcases hor with rfl | rfl
    · obtain ⟨u0, u1⟩ := ZB rfl
      have wr1 : IntKind.i64.wrap ((z : Int) + u) = z + u := IntWalk.i64_in _ (by omega)
      go_wp2_with fail
      go_region_with (fail)
      all_goals
        go_wp2_with fail
        go_ret
        refine ⟨by rw [N0.out]; rfl, ⟨?_, RN.out.1, RN.out.2⟩, (gr_below B2.out _).trans ((gr_drewN _ _ _).trans (gr_set _ _ _))⟩
        refine (heap_setCell_same _ g 1 _ _ _ T2.out.blk).trans ?_
        rw [show ((z + numZ l : Nat) : Int) = (z : Int) + u by rw [N1.out, if_pos (by trivial)]; omega]
        rfl
    · go_wp2_with fail
      go_ret
      refine ⟨by rw [N0.out]; rfl, ⟨?_, RN.out.1, RN.out.2⟩, gr_below B2.out _⟩
      rw [N1.out]
      exact T2.out.blk
def TListPost (s l : List UInt8) (z g : Nat) (most : Int) (w : World) (r : Ending) (w' : World) : Prop :=
  w.grownBy w' (some g) ∧ (((takeL l most).2.2 = 0 ∧ ∃ v z', r = .returned (.tuple #[v, .bool true]) ∧ w'.ownsRow w.heap.size 3 1 v (takeL l most).1.length (ints (takeL l most).1) ∧ TpAt s (takeL l most).2.1 z' g w') ∨
    ((takeL l most).2.2 ≠ 0 ∧ r = .returned (.tuple #[.slice none 0 0, .bool false]) ∧ TpAt s l z g w'))
set_option maxHeartbeats 1000000 in
theorem tlist_any (s l : List UInt8) (z g : Nat) (most : Int) (w : World) (h : TpAt s l z g w) (hl : s.length ≤ 1000000) : Calls Try.prog 42 #[.pointer (some ⟨g, 0, none⟩), .int .i64 most] w (TListPost s l z g most w) := by
  have HL := Lib.hid h
  have hd := h.drop
  have hle := h.le
  have hll : l.length ≤ 1000000 := by rw [hd, List.length_drop]; omega
  have TK : Hid (∀ w : World, Calls Try.prog 70 #[bs l, .int .i64 most] w (RTLPost l (takeL l most) w)) := Lib.hid (fun w => ref_takeL_any l most w hll)
  unfold RTLPost at TK
  obtain ⟨q0, q1, qf⟩ := two_cells h.blk
  unfold TListPost
  obtain ⟨⟨tl, tr, te⟩, ht⟩ : ∃ e, takeL l most = e := ⟨_, rfl⟩
  rw [ht] at TK ⊢
  dsimp only at TK ⊢
  rw [hd] at TK
  clear h ht
  have hz0 : (z : Int) ≤ s.length := by omega
  have hz9 : (z : Int) ≤ 1000000 := by omega
  have hgl := lt_of_heap HL.out.blk
  have hne : ¬ g = w.heap.size := by omega
  have hne2 : ¬ w.heap.size = g := by omega
  go_enter Try.func42, Try.ntmps42
  go_wp2_with fail
  go_region_held3 (fun w' => w'.cell? ⟨g, 0, none⟩ = some (bs s) ∧ w'.cell? ⟨g, 1, none⟩ = some (.int .i64 z)) (go_keep)
    (first | (go_at_call 70; (with_reducible refine (TK.out _).mono ?_); rintro r w1 ⟨v, u, rfl, hown, hB1, hu⟩; obtain ⟨av, cv, rfl⟩ := owns_slice hown; have k0 := hB1.cell (p := ⟨g, 0, none⟩) (by simp; omega); have k1 := hB1.cell (p := ⟨g, 1, none⟩) (by simp; omega); have k2 := fun h => hB1.cell (p := ⟨w.heap.size, 0, none⟩) h; (try simp at k2); have k3 := fun h => hB1.cell (p := ⟨w.heap.size, 1, none⟩) h; (try simp at k3); have k4 := fun h => hB1.frozen (p := ⟨w.heap.size, 0, none⟩) h; (try simp at k4); have k5 := fun h => hB1.frozen (p := ⟨w.heap.size, 1, none⟩) h; (try simp at k5); have B1 := Lib.hid hB1; have U := Lib.hid hu; have OW := Lib.hid hown; clear hB1 hu hown))
  all_goals
    first
    | (
      obtain ⟨w2, hw2⟩ : ∃ x, (w1.setCell ⟨w.heap.size, 0, none⟩ (.slice av tl.length cv)).setCell ⟨w.heap.size, 1, none⟩ (.int .i64 u) = x := ⟨_, rfl⟩
      rw [hw2]
      have BX : Below w.heap.size w w1 := ((below1 w _).drew).trans (B1.out.mono (by simp))
      have XH : w1.heap[w.heap.size]? = some (Obj.cells #[.slice none 0 0, .int .i64 0] 118 (0, 0)) := (B1.out.block _ (by simp)).trans (heap_alloc_new w _)
      have B2 := Lib.hid (show Below w.heap.size w w2 from by rw [← hw2]; exact (BX.setCell (Nat.le_refl _) _).setCell (Nat.le_refl _) _)
      have X2 := Lib.hid (show w2.heap[w.heap.size]? = some (Obj.cells #[.slice av tl.length cv, .int .i64 u] 118 (0, 0)) from by
        rw [← hw2, heap_setCell_same _ _ 1 _ _ _ (heap_setCell_same _ _ 0 _ _ _ XH)]; rfl)
      have O2 := Lib.hid (show w2.ownsRow w.heap.size 3 1 (.slice av tl.length cv) tl.length (ints tl) from by
        have o2 : OthB w1 (some w.heap.size) [3] := othB_cell XH (by decide)
        have hg : w1.grownBy w2 (some w.heap.size) := by rw [← hw2]; exact (gr_set w1 ⟨w.heap.size, 0, none⟩ _).trans (gr_set _ ⟨w.heap.size, 1, none⟩ _)
        exact own_keep (owns_low OW.out (by simp)) hg o2 (by simp))
      clear XH
      )
    | (
      obtain ⟨w2, hw2⟩ : ∃ x, w1.alloc (Obj.cells #[.slice av tl.length cv, .int .i64 u] 118) = x := ⟨_, rfl⟩
      rw [hw2]
      have BX : Below w.heap.size w w1 := (Below.refl w.heap.size w).drew.trans B1.out
      have hneA : ¬ g = w1.heap.size := by have := BX.size; omega
      have hneB : ¬ w1.heap.size = g := by have := BX.size; omega
      have B2 := Lib.hid (show Below w.heap.size w w2 from by rw [← hw2]; exact BX.alloc BX.size _)
      have X2 := Lib.hid (show w2.heap[w1.heap.size]? = some (Obj.cells #[.slice av tl.length cv, .int .i64 u] 118 (0, 0)) from by rw [← hw2]; exact heap_alloc_new _ _)
      have O2 := Lib.hid (show w2.ownsRow w.heap.size 3 1 (.slice av tl.length cv) tl.length (ints tl) from by rw [← hw2]; exact (owns_low OW.out (by simp)).alloc _)
      )
    have T2 := Lib.hid (HL.out.below B2.out)
    clear hw2 BX B1 OW q0 q1 qf
    obtain ⟨q0, q1, qf⟩ := two_cells T2.out.blk
    obtain ⟨x0, x1, xf⟩ := two_cells X2.out
    by_cases he : te = 0
    · obtain ⟨u0, u1⟩ := U.out he
      rw [List.length_drop] at u0
      have U1 := Lib.hid (show tr = s.drop (z + u) ∧ z + u ≤ s.length from ⟨by rw [u1, List.drop_drop], by omega⟩)
      have wr1 : IntKind.i64.wrap ((z : Int) + u) = z + u := IntWalk.i64_in _ (by omega)
      subst he
      clear u0 u1 U
      go_wp2_with fail
      go_region_with (fail)
      all_goals
        have o3 : OthB w2 (some g) [3] := othB_cell T2.out.blk (by decide)
        have g3 : ∀ x, w2.grownBy (w2.setCell ⟨g, 1, none⟩ x).drew (some g) := fun x => (gr_set w2 ⟨g, 1, none⟩ x).trans (gr_drew _ _)
        have T3 : TpAt s tr (z + u) g (w2.setCell ⟨g, 1, none⟩ (.int .i64 ((z : Int) + u))).drew := ⟨(heap_setCell_same w2 g 1 _ _ (.int .i64 ((z : Int) + u)) T2.out.blk).trans (by rw [show ((z + u : Nat) : Int) = (z : Int) + u by omega]; rfl), U1.out.1, U1.out.2⟩
        have O3 := own_keep O2.out (g3 (.int .i64 ((z : Int) + u))) o3 (by simp)
        have GG := (gr_below B2.out (some g)).trans (g3 (.int .i64 ((z : Int) + u)))
        have TT := Lib.hid T3
        have OO := Lib.hid O3
        have GH := Lib.hid GG
        clear T3 O3 GG g3 o3
        go_wp2_with fail
        go_ret2
        first
        | exact ⟨GH.out, .inl ⟨by trivial, _, z + u, rfl, OO.out, TT.out⟩⟩
        | exact ⟨GH.out, _, rfl, OO.out, z + u, TT.out⟩
        | exact ⟨GH.out, _, z + u, rfl, OO.out, TT.out⟩
    · have he1 : (te != 0) = true := by simpa using he
      have he2 : (te == 0) = false := beq_eq_false_iff_ne.2 he
      have HE := Lib.hid he
      clear he
      go_wp2_with fail
      go_ret2
      first
      | exact ⟨gr_below B2.out _, .inr ⟨HE.out, rfl, T2.out⟩⟩
      | exact ⟨gr_below B2.out _, rfl, T2.out⟩
end Go.Proofs.Ytpefjcmaggimhaa
namespace Go.Proofs.Ytpefjcmaggimhaa
open Go.RowKit
set_option linter.unusedVariables false
set_option linter.unusedSimpArgs false
set_option maxRecDepth 100000

def rprogK (p : Int) (b : List UInt8) : Option (List Opn × List UInt8) := if numV b < 0 ∨ 32 < numV b then none else opsK p (numR b) (numV b).toNat
theorem tnum_ok {l : List UInt8} (h : takE l = 0) : numV l = takV l ∧ numR l = takR l := ⟨by unfold numV; rw [if_pos h], by unfold numR; rw [if_pos h]⟩
theorem tnum_bad {l : List UInt8} (h : takE l ≠ 0) : numV l = -1 ∧ numR l = l := ⟨by unfold numV; rw [if_neg h], by unfold numR; rw [if_neg h]⟩
theorem rprogK_eq (p : Int) (b : List UInt8) : rprogK p b = progK p b := by
  have hv := takV_bd b
  unfold rprogK progK
  simp only [headK]
  by_cases h : takE b = 0
  · obtain ⟨e1, e2⟩ := tnum_ok h
    rw [e1, e2]
    by_cases h2 : takV b ≤ 32
    · rw [if_neg (by omega), if_pos ⟨h, h2⟩]; rfl
    · rw [if_pos (by omega), if_neg (fun e => h2 e.2)]
  · obtain ⟨e1, e2⟩ := tnum_bad h
    rw [e1, if_pos (by omega), if_neg (fun e => h e.1)]
/-- What the reference's Decode gives. -/
def rdecX (b : List UInt8) : Option Scr :=
  if numV (numR (numR b)) < 1 ∨ 8 < numV (numR (numR b)) then none else
    match prsK (numV (numR (numR b))) (numR (numR (numR b))) (numV (numR (numR b))).toNat with
    | none => none
    | some (ps, r') => endX (numV b) (numV (numR b)) ps r'
theorem endX_no {t m : Int} {ps : List (List Opn)} {r : List UInt8} (h : chkS (endS t m ps r) ≠ 0) : endX t m ps r = none := by
  unfold endX endOk
  rw [decide_eq_false h]
  simp
theorem chk_tm {s : Scr} (h : badTM s = true) : chkS s ≠ 0 := by unfold chkS; rw [if_pos h]; decide
theorem chk_nil {s : Scr} (h : s.ps = []) : chkS s ≠ 0 := by
  unfold chkS
  have : frmB s = true := by simp [frmB, h]
  split
  · decide
  · split
    · decide
    · decide
theorem badTM_of {t m : Int} {ps : List (List Opn)} {r : List UInt8} (h : t < 1 ∨ 256 < t ∨ m < 1 ∨ 1048576 < m) : badTM (endS t m ps r) = true := by
  unfold badTM endS
  exact decide_eq_true (by dsimp only; omega)
theorem rdecX_eq (b : List UInt8) : rdecX b = decX b := by
  have v1 := takV_bd b
  have v2 := takV_bd (takR b)
  have v3 := takV_bd (takR (takR b))
  by_cases h1 : takE b = 0
  · obtain ⟨e1, r1⟩ := tnum_ok h1
    by_cases h2 : takE (takR b) = 0
    · obtain ⟨e2, r2⟩ := tnum_ok h2
      by_cases h3 : takE (takR (takR b)) = 0
      · obtain ⟨e3, r3⟩ := tnum_ok h3
        unfold rdecX
        rw [r1, r2, e1, e2, e3, r3]
        by_cases g : takV b ≤ 256 ∧ takV (takR b) ≤ 1048576 ∧ takV (takR (takR b)) ≤ 8
        · have hk : headK [256, 1048576, 8] b 3 = some ([takV b, takV (takR b), takV (takR (takR b))], takR (takR (takR b))) := by
            simp only [headK]
            rw [if_pos ⟨h1, g.1⟩]
            simp only
            rw [if_pos ⟨h2, g.2.1⟩]
            simp only
            rw [if_pos ⟨h3, g.2.2⟩]
            rfl
          unfold decX
          rw [hk]
          show _ = match prsK (takV (takR (takR b))) (takR (takR (takR b))) (takV (takR (takR b))).toNat with
            | none => none
            | some (ps, r') => endX (takV b) (takV (takR b)) ps r'
          by_cases g0 : takV (takR (takR b)) < 1
          · rw [if_pos (.inl g0)]
            have : takV (takR (takR b)) = 0 := by omega
            rw [this]
            exact (endX_no (chk_nil rfl)).symm
          · rw [if_neg (by omega)]
        · have hk : headK [256, 1048576, 8] b 3 = none := by
            cases hk : headK [256, 1048576, 8] b 3 with
            | none => rfl
            | some x =>
              obtain ⟨l, r⟩ := x
              obtain ⟨_, _, _, g1, g2, g3⟩ := head3 hk
              exact absurd ⟨g1, g2, g3⟩ g
          unfold decX
          rw [hk]
          by_cases g8 : takV (takR (takR b)) < 1 ∨ 8 < takV (takR (takR b))
          · rw [if_pos g8]
          · rw [if_neg g8]
            cases prsK (takV (takR (takR b))) (takR (takR (takR b))) (takV (takR (takR b))).toNat with
            | none => rfl
            | some x =>
              obtain ⟨ps, r'⟩ := x
              exact endX_no (chk_tm (badTM_of (by omega)))
      · obtain ⟨e3, r3⟩ := tnum_bad h3
        have hk : headK [256, 1048576, 8] b 3 = none := by
          cases hk : headK [256, 1048576, 8] b 3 with
          | none => rfl
          | some x => obtain ⟨l, r⟩ := x; exact absurd (head3 hk).2.2.1.2.2 h3
        unfold rdecX decX
        rw [hk, r1, r2, e3, if_pos (by omega)]
    · obtain ⟨e2, r2⟩ := tnum_bad h2
      have hk : headK [256, 1048576, 8] b 3 = none := by
        cases hk : headK [256, 1048576, 8] b 3 with
        | none => rfl
        | some x => obtain ⟨l, r⟩ := x; exact absurd (head3 hk).2.2.1.2.1 h2
      unfold rdecX decX
      rw [hk, r1, r2, e2, if_pos (by omega)]
  · obtain ⟨e1, r1⟩ := tnum_bad h1
    have hk : headK [256, 1048576, 8] b 3 = none := by
      cases hk : headK [256, 1048576, 8] b 3 with
      | none => rfl
      | some x => obtain ⟨l, r⟩ := x; exact absurd (head3 hk).2.2.1.1 h1
    unfold rdecX decX
    rw [hk, r1, r1, e1, if_pos (by omega)]
end Go.Proofs.Ytpefjcmaggimhaa
namespace Go.Proofs.Ytpefjcmaggimhaa
open Go.RowKit
set_option linter.unusedVariables false
set_option linter.unusedSimpArgs false
set_option maxRecDepth 100000

def opT : List TypeId := [50, 48, 45]
structure RsSt (b l : List UInt8) (z : Nat) (t m : Int) (TB SB : Nat) (v : Value) (qs : List Pr) (w0 w : World) : Prop where
  res : w.heap[w0.heap.size]? = some (.cells (scrC (.slice none 0 0) (.slice none 0 0) (.slice none 0 0) zeroScr) 25 (0, 0))
  tp : TpAt b l z TB w
  sb : w.heap[SB]? = some (.cells (scrC v (.slice none 0 0) (.slice none 0 0) ⟨t, m, [], [], []⟩) 25 (0, 0))
  row : PrRow (w0.heap.size + 1) w v qs
  bel : Below w0.heap.size w0 w
  lowT : w0.heap.size < TB
  low : w0.heap.size < SB
theorem RsSt.ne {b l : List UInt8} {z : Nat} {t m : Int} {TB SB : Nat} {v : Value} {qs : List Pr} {w0 w : World} (h : RsSt b l z t m TB SB v qs w0 w) : SB ≠ TB := by
  intro e
  have h1 := h.sb
  rw [e, h.tp.blk] at h1
  have := Option.some.inj h1
  injection this with e1 e2
  exact absurd e2 (by decide)
theorem RsSt.below {b l : List UInt8} {z : Nat} {t m : Int} {TB SB : Nat} {v : Value} {qs : List Pr} {w0 w w' : World} (h : RsSt b l z t m TB SB v qs w0 w) (hB : Below w.heap.size w w') : RsSt b l z t m TB SB v qs w0 w' :=
  ⟨(hB.block _ (lt_of_heap h.res)).trans h.res, h.tp.below hB, (hB.block _ (lt_of_heap h.sb)).trans h.sb, h.row.below (Nat.le_refl _) hB, h.bel.trans (hB.mono h.bel.size), h.lowT, h.low⟩
/-- The tape has gone on (and perhaps new blocks have been made). -/
theorem RsSt.num {b l l' : List UInt8} {z z' : Nat} {t m : Int} {TB SB : Nat} {v : Value} {qs : List Pr} {w0 w w' : World} (h : RsSt b l z t m TB SB v qs w0 w) (ht : TpAt b l' z' TB w') (hg : w.grownBy w' (some TB)) : RsSt b l' z' t m TB SB v qs w0 w' := by
  have low := h.lowT
  have o1 : OthB w (some TB) [50, 48, 45] := othB_cell h.tp.blk (by decide)
  exact ⟨(hg.block _ (lt_of_heap h.res) (by intro e; have := Option.some.inj e; omega)).trans h.res, ht, (hg.block _ (lt_of_heap h.sb) (by intro e; exact h.ne (Option.some.inj e))).trans h.sb, h.row.keep hg o1, h.bel.grown hg h.bel.size (fun k hk => by have := Option.some.inj hk; omega), h.lowT, h.low⟩
/-- The second number is stored. -/
theorem RsSt.setM {b l : List UInt8} {z : Nat} {t m m' : Int} {TB SB : Nat} {v : Value} {qs : List Pr} {w0 w : World} (h : RsSt b l z t m TB SB v qs w0 w) : RsSt b l z t m' TB SB v qs w0 (w.setCell ⟨SB, 1, none⟩ (.int .i64 m')) := by
  have low := h.low
  have g2 : w.grownBy (w.setCell ⟨SB, 1, none⟩ (.int .i64 m')) (some SB) := gr_set _ _ _
  have o1 : OthB w (some SB) [50, 48, 45] := othB_cell h.sb (by decide)
  exact ⟨(g2.block _ (lt_of_heap h.res) (by intro e; have := Option.some.inj e; omega)).trans h.res, h.tp.gr g2 (by intro e; exact h.ne (Option.some.inj e).symm), by rw [heap_setCell_same _ _ _ _ _ _ h.sb]; rfl, h.row.keep g2 o1, h.bel.setCell (by show w0.heap.size ≤ SB; omega) _, h.lowT, h.low⟩
/-- A program is appended, and the slice stored. -/
theorem RsSt.app {b l : List UInt8} {z : Nat} {t m : Int} {TB SB : Nat} {v v' : Value} {qs : List Pr} {x : Pr} {w0 w w' : World} (h : RsSt b l z t m TB SB v qs w0 w) (hx : OpRow 0 w x.2 x.1) (hr : w'.ownsRow (w0.heap.size + 1) 45 1 v' (qs.length + 1) (qs.map (·.2) ++ [x.2])) (hg : w.grownBy w' v.ownBlock) :
    w'.heap[SB]? = some (.cells (scrC v (.slice none 0 0) (.slice none 0 0) ⟨t, m, [], [], []⟩) 25 (0, 0)) ∧ RsSt b l z t m TB SB v' (qs ++ [x]) w0 (w'.setCell ⟨SB, 2, none⟩ v') := by
  have o1 : OthB w v.ownBlock [25, 80] := othB_row h.row.row (by decide)
  have e1 := (hg.block _ (lt_of_heap h.res) (o1.ne (by simp) h.res)).trans h.res
  have e2 := (hg.block _ (lt_of_heap h.sb) (o1.ne (by simp) h.sb)).trans h.sb
  have e3 := h.tp.gr hg (o1.ne (by simp) h.tp.blk)
  have e4 := h.row.app hx hr hg
  have e5 : Below w0.heap.size w0 w' := h.bel.grown hg h.bel.size (fun k hk => by have := (h.row.row.lt k hk).1; omega)
  have o2 : OthB w' (some SB) [50, 48, 45] := othB_cell e2 (by decide)
  have g2 : w'.grownBy (w'.setCell ⟨SB, 2, none⟩ v') (some SB) := gr_set _ _ _
  have low := h.low
  exact ⟨e2, ⟨(heap_setCell_other _ _ _ _ (by show w0.heap.size ≠ SB; omega)).trans e1, e3.gr g2 (by intro e; exact h.ne (Option.some.inj e).symm), by rw [heap_setCell_same _ _ _ _ _ _ e2]; rfl, e4.keep g2 o2, e5.setCell (by show w0.heap.size ≤ SB; omega) _, h.lowT, h.low⟩⟩
/-- Of what was there, one block alone has turned; what grows on lies behind it. -/
theorem gr_over {ws w w' : World} {T o : Option Nat} (h : ws.grownBy w T) (hg : w.grownBy w' o) (ho : ∀ k, o = some k → ws.heap.size ≤ k) : ws.grownBy w' T :=
  ⟨hg.os.trans h.os, hg.tape.trans h.tape, hg.output.trans h.output, Nat.le_trans h.size hg.size, fun k hk hn => (hg.block k (Nat.lt_of_lt_of_le hk h.size) (fun e => by have := ho k e.symm; omega)).trans (h.block k hk hn)⟩
/-- Where the inner loop stands. -/
structure RiSt (b l : List UInt8) (z : Nat) (TB : Nat) (v : Value) (es : List (Opn × Value)) (ws w : World) : Prop where
  gr : ws.grownBy w (some TB)
  tp : TpAt b l z TB w
  row : OpRow ws.heap.size w v es
theorem RiSt.below {b l : List UInt8} {z : Nat} {TB : Nat} {v : Value} {es : List (Opn × Value)} {ws w w' : World} (h : RiSt b l z TB v es ws w) (hB : Below w.heap.size w w') : RiSt b l z TB v es ws w' :=
  ⟨h.gr.trans (gr_below hB _), h.tp.below hB, h.row.below (Nat.le_refl _) hB⟩
theorem RiSt.num {b l l' : List UInt8} {z z' : Nat} {TB : Nat} {v : Value} {es : List (Opn × Value)} {ws w w' : World} (h : RiSt b l z TB v es ws w) (ht : TpAt b l' z' TB w') (hg : w.grownBy w' (some TB)) : RiSt b l' z' TB v es ws w' :=
  ⟨h.gr.trans hg, ht, h.row.keep hg (othB_cell h.tp.blk (ts := [50, 48]) (by decide)) (by simp) (by simp)⟩
theorem RiSt.app {b l : List UInt8} {z : Nat} {TB : Nat} {v v' : Value} {es : List (Opn × Value)} {x : Opn × Value} {ws w w' : World} (h : RiSt b l z TB v es ws w) (hx : CssTy w x.2 x.1.cs) (hr : w'.ownsRow ws.heap.size 48 5 v' (es.length + 1) (opCells es ++ opL x)) (hg : w.grownBy w' v.ownBlock) : RiSt b l z TB v' (es ++ [x]) ws w' :=
  ⟨gr_over h.gr hg (fun k hk => (h.row.row.lt k hk).1), h.tp.gr hg ((othB_row h.row.row (ts := [80]) (by decide)).ne (by simp) h.tp.blk), h.row.app hx hr hg⟩
/-- The inner loop's end: the outer state. -/
theorem RsSt.inner {b l l' : List UInt8} {z z' : Nat} {t m : Int} {TB SB : Nat} {v vp : Value} {qs : List Pr} {es : List (Opn × Value)} {w0 ws w : World} (h : RsSt b l z t m TB SB v qs w0 ws) (hi : RiSt b l' z' TB vp es ws w) : RsSt b l' z' t m TB SB v qs w0 w := h.num hi.tp hi.gr
/-- Where the plan's loop stands. -/
structure RpSt (b l : List UInt8) (z : Nat) (t m : Int) (TB SB W1 : Nat) (v vl vs : Value) (qs : List Pr) (xs ks : List Int) (w0 w : World) : Prop where
  res : w.heap[w0.heap.size]? = some (.cells (scrC (.slice none 0 0) (.slice none 0 0) (.slice none 0 0) zeroScr) 25 (0, 0))
  tp : TpAt b l z TB w
  sb : w.heap[SB]? = some (.cells (scrC v vl (.slice none 0 0) ⟨t, m, [], [], []⟩) 25 (0, 0))
  row : PrRow (w0.heap.size + 1) w v qs
  pl : w.ownsRow W1 3 1 vl ks.length (ints ks)
  src : w.ownsRow 0 3 1 vs xs.length (ints xs)
  slt : ∀ k, vs.ownBlock = some k → k < W1
  bel : Below w0.heap.size w0 w
  lowT : w0.heap.size < TB
  low : w0.heap.size < SB
  low1 : w0.heap.size < W1
  le1 : W1 ≤ w.heap.size
theorem RsSt.plan {b l : List UInt8} {z : Nat} {t m : Int} {TB SB : Nat} {v vs : Value} {qs : List Pr} {xs : List Int} {base : Nat} {w0 w : World} (h : RsSt b l z t m TB SB v qs w0 w) (hs : w.ownsRow base 3 1 vs xs.length (ints xs)) :
    RpSt b l z t m TB SB w.heap.size v (.slice none 0 0) vs qs xs [] w0 w :=
  ⟨h.res, h.tp, h.sb, h.row, World.ownsRow_nil _ _ _ _, owns_low hs (Nat.zero_le _), fun k hk => (hs.lt k hk).2, h.bel, h.lowT, h.low, lt_of_heap h.res, Nat.le_refl _⟩
theorem RpSt.ne {b l : List UInt8} {z : Nat} {t m : Int} {TB SB W1 : Nat} {v vl vs : Value} {qs : List Pr} {xs ks : List Int} {w0 w : World} (h : RpSt b l z t m TB SB W1 v vl vs qs xs ks w0 w) : SB ≠ TB := by
  intro e
  have h1 := h.sb
  rw [e, h.tp.blk] at h1
  have := Option.some.inj h1
  injection this with e1 e2
  exact absurd e2 (by decide)
theorem RpSt.below {b l : List UInt8} {z : Nat} {t m : Int} {TB SB W1 : Nat} {v vl vs : Value} {qs : List Pr} {xs ks : List Int} {w0 w w' : World} (h : RpSt b l z t m TB SB W1 v vl vs qs xs ks w0 w) (hB : Below w.heap.size w w') : RpSt b l z t m TB SB W1 v vl vs qs xs ks w0 w' :=
  ⟨(hB.block _ (lt_of_heap h.res)).trans h.res, h.tp.below hB, (hB.block _ (lt_of_heap h.sb)).trans h.sb, h.row.below (Nat.le_refl _) hB, h.pl.kept (below_none hB) (by cases vl.ownBlock <;> simp), h.src.kept (below_none hB) (by cases vs.ownBlock <;> simp), h.slt, h.bel.trans (hB.mono h.bel.size), h.lowT, h.low, h.low1, Nat.le_trans h.le1 hB.size⟩
theorem RpSt.num {b l l' : List UInt8} {z z' : Nat} {t m : Int} {TB SB W1 : Nat} {v vl vs : Value} {qs : List Pr} {xs ks : List Int} {w0 w w' : World} (h : RpSt b l z t m TB SB W1 v vl vs qs xs ks w0 w) (ht : TpAt b l' z' TB w') (hg : w.grownBy w' (some TB)) : RpSt b l' z' t m TB SB W1 v vl vs qs xs ks w0 w' := by
  have low := h.lowT
  have o1 : OthB w (some TB) [50, 48, 45] := othB_cell h.tp.blk (by decide)
  have o2 : OthB w (some TB) [3] := othB_cell h.tp.blk (by decide)
  exact ⟨(hg.block _ (lt_of_heap h.res) (by intro e; have := Option.some.inj e; omega)).trans h.res, ht, (hg.block _ (lt_of_heap h.sb) (by intro e; exact h.ne (Option.some.inj e))).trans h.sb, h.row.keep hg o1, own_keep h.pl hg o2 (by simp), own_keep h.src hg o2 (by simp), h.slt, h.bel.grown hg h.bel.size (fun k hk => by have := Option.some.inj hk; omega), h.lowT, h.low, h.low1, Nat.le_trans h.le1 hg.size⟩
/-- One more entry. -/
theorem RpSt.app {b l : List UInt8} {z : Nat} {t m x : Int} {TB SB W1 : Nat} {v vl vl' vs : Value} {qs : List Pr} {xs ks : List Int} {w0 w w' : World} (h : RpSt b l z t m TB SB W1 v vl vs qs xs ks w0 w) (hr : w'.ownsRow W1 3 1 vl' (ks.length + 1) (ints ks ++ [.int .i64 x])) (hg : w.grownBy w' vl.ownBlock) :
    w'.heap[SB]? = some (.cells (scrC v vl (.slice none 0 0) ⟨t, m, [], [], []⟩) 25 (0, 0)) ∧ RpSt b l z t m TB SB W1 v vl' vs qs xs (ks ++ [x]) w0 (w'.setCell ⟨SB, 3, none⟩ vl') := by
  have o1 : OthB w vl.ownBlock [25, 80, 50, 48, 45] := othB_row h.pl (by decide)
  have o3 : OthB w vl.ownBlock [50, 48, 45] := othB_row h.pl (by decide)
  have e1 := (hg.block _ (lt_of_heap h.res) (o1.ne (by simp) h.res)).trans h.res
  have e2 := (hg.block _ (lt_of_heap h.sb) (o1.ne (by simp) h.sb)).trans h.sb
  have e3 := h.tp.gr hg (o1.ne (by simp) h.tp.blk)
  have e4 := h.row.keep hg o3
  have e5 : Below w0.heap.size w0 w' := h.bel.grown hg h.bel.size (fun k hk => by have := (h.pl.lt k hk).1; have := h.low1; omega)
  have e6 : w'.ownsRow 0 3 1 vs xs.length (ints xs) := h.src.kept hg (by
    cases hv : vs.ownBlock with
    | none => exact .inl rfl
    | some k =>
      refine .inr fun e => ?_
      have h1 := h.slt k hv
      have h2 := (h.pl.lt k e.symm).1
      omega)
  have g2 : w'.grownBy (w'.setCell ⟨SB, 3, none⟩ vl') (some SB) := gr_set _ _ _
  have o2 : OthB w' (some SB) [50, 48, 45] := othB_cell e2 (by decide)
  have o4 : OthB w' (some SB) [3] := othB_cell e2 (by decide)
  have low := h.low
  have hr' : w'.ownsRow W1 3 1 vl' (ks ++ [x]).length (ints (ks ++ [x])) := by
    rw [List.length_append, List.length_singleton, show ints (ks ++ [x]) = ints ks ++ [.int .i64 x] by simp [ints]]
    exact hr
  exact ⟨e2, ⟨(heap_setCell_other _ _ _ _ (by show w0.heap.size ≠ SB; omega)).trans e1, e3.gr g2 (by intro e; exact h.ne (Option.some.inj e).symm), by rw [heap_setCell_same _ _ _ _ _ _ e2]; rfl, e4.keep g2 o2, own_keep hr' g2 o4 (by simp), own_keep e6 g2 o4 (by simp), h.slt, e5.setCell (by show w0.heap.size ≤ SB; omega) _, h.lowT, h.low, h.low1, Nat.le_trans h.le1 (Nat.le_trans hg.size g2.size)⟩⟩
theorem RpSt.fin {b l : List UInt8} {z : Nat} {t m : Int} {TB SB W1 : Nat} {v vl vs vd : Value} {qs : List Pr} {xs ks dr : List Int} {b2 : Nat} {w0 w : World} (h : RpSt b l z t m TB SB W1 v vl vs qs xs ks w0 w) (hd : w.ownsRow b2 3 1 vd dr.length (ints dr)) :
    DsFin SB v vl vd qs ⟨t, m, qs.map Pr.ops, ks, dr⟩ w0 (w.setCell ⟨SB, 4, none⟩ vd) ∧ TpAt b l z TB (w.setCell ⟨SB, 4, none⟩ vd) := by
  have hg : w.grownBy (w.setCell ⟨SB, 4, none⟩ vd) (some SB) := gr_set w ⟨SB, 4, none⟩ _
  have o1 : OthB w (some SB) [50, 48, 45] := othB_cell h.sb (by decide)
  have o2 : OthB w (some SB) [3] := othB_cell h.sb (by decide)
  have low := h.low
  refine ⟨⟨(hg.block _ (lt_of_heap h.res) (by intro e; have := Option.some.inj e; omega)).trans h.res, ?_, (h.row.low (Nat.zero_le _)).keep hg o1, rfl, own_keep (owns_low h.pl (Nat.zero_le _)) hg o2 (by simp), own_keep (owns_low hd (Nat.zero_le _)) hg o2 (by simp), h.bel.setCell (by show w0.heap.size ≤ SB; omega) _, low⟩, h.tp.gr hg (by intro e; exact h.ne (Option.some.inj e).symm)⟩
  rw [heap_setCell_same _ _ 4 _ _ vd h.sb]
  rfl
end Go.Proofs.Ytpefjcmaggimhaa

