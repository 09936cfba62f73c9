
/-
  An operation's numbers: staitheref04.Numbers.
-/
import Derived.Test.YtpefjcmaggimhaaDeeE
namespace Go.Proofs.Ytpefjcmaggimhaa
open Go.RowKit
set_option linter.unusedVariables false
set_option linter.unusedSimpArgs false
set_option maxRecDepth 100000

theorem rA_dot {k p : Int} (h1 : 1 ≤ k) (h9 : k ≤ 9) (hp : 1 ≤ p) : (btI [rA k, rB k] 0 != 46) = decide (0 < limA k p) := by
  have : k = 1 ∨ k = 2 ∨ k = 3 ∨ k = 4 ∨ k = 5 ∨ k = 6 ∨ k = 7 ∨ k = 8 ∨ k = 9 := by omega
  rcases this with rfl | rfl | rfl | rfl | rfl | rfl | rfl | rfl | rfl
  · show (btI [rA 1, rB 1] 0 != 46) = decide (0 < p)
    rw [decide_eq_true (by omega)]; rfl
  all_goals rfl
theorem rB_dot {k : Int} (h1 : 1 ≤ k) (h9 : k ≤ 9) : (btI [rA k, rB k] 1 != 46) = decide (0 < limB k) := by
  have : k = 1 ∨ k = 2 ∨ k = 3 ∨ k = 4 ∨ k = 5 ∨ k = 6 ∨ k = 7 ∨ k = 8 ∨ k = 9 := by omega
  rcases this with rfl | rfl | rfl | rfl | rfl | rfl | rfl | rfl | rfl
  all_goals rfl

set_option maxHeartbeats 4000000 in
theorem rnumbers_any (o : Opn) (v : Value) (p : Int) (w : World) (h : CssOf w v o.cs) (hn : o.cs.length ≤ 4) (h1 : 1 ≤ o.k) (h9 : o.k ≤ 9) (hp : 1 ≤ p) : Calls Try.prog 56 #[opV v o] w (NumPost o p w) := by
  obtain ⟨i0, hi, hz0, hz1, hz2⟩ := info_parts info_int
  obtain ⟨k, a, b, cs, df⟩ := o
  obtain ⟨ao, cap, rfl⟩ := h.shape
  dsimp only at h hn h1 h9 ⊢
  obtain ⟨n, hnn⟩ : ∃ n, cs.length = n := ⟨_, rfl⟩
  rw [hnn] at h hn
  have HC := Lib.hid h
  have HN := Lib.hid hnn
  have E0 := OpAt.new (.slice ao n cap) ⟨k, a, b, cs, df⟩ w
  rw [hnn]
  obtain ⟨W, hW⟩ : ∃ W, w.alloc (.cells #[.int .i64 k, .int .i64 a, .int .i64 b, .slice ao n cap, .bool df] 48) = W := ⟨_, rfl⟩
  dsimp only at E0
  rw [hW] at E0
  have SW : W.heap.size = w.heap.size + 1 := by rw [← hW]; simp
  have EW := Lib.hid E0
  obtain ⟨z0, z1, z2, z3, z4⟩ := five_cells E0.ev
  dsimp only at z0 z1 z2 z3 z4
  unfold opV
  dsimp only
  clear E0 h hnn
  by_cases hk : k = 6
  · subst hk
    have NM := Lib.hid (show numsO ⟨6, a, b, cs, df⟩ p = [6, bitI df, (n : Int)] ++ cs.flatMap csNums by unfold numsO; rw [if_pos rfl]; dsimp only; rw [HN.out])
    have B0 := Lib.hid (rbit_any df)
    obtain ⟨d, hd⟩ : ∃ d, bitI df = d := ⟨_, rfl⟩
    rw [hd] at NM B0
    clear hd
    have N0 := Lib.hid (show NSt (.slice ao n cap) ⟨6, a, b, cs, df⟩ [6] (.slice (some ⟨w.heap.size + 1, 0, none⟩) 1 1) w (W.alloc (.cells #[.int .i64 6] 3)) by
      have := owns_new W (w.heap.size + 1) [6] (by omega) (by simp) 3
      rw [SW] at this
      exact ⟨this, EW.out.below ((Below.refl _ W).alloc (Nat.le_refl _) _)⟩)
    obtain ⟨wz, hwz⟩ : ∃ Z, W.alloc (.cells #[.int .i64 6] 3) = Z := ⟨_, rfl⟩
    rw [hwz] at N0
    have SZ0 := N0.out.op.bel.size
    have SZ1 := lt_of_heap N0.out.op.ev
    obtain ⟨y0, y1, y2, y3, y4⟩ := five_cells N0.out.op.ev
    dsimp only at y0 y1 y2 y3 y4
    have CX := Lib.hid (fun (w8 : World) (hg : wz.grownBy w8 (Value.slice (some ⟨w.heap.size + 1, 0, none⟩) 1 1).ownBlock) => five_cells ((hg.block w.heap.size (lt_of_heap N0.out.op.ev) (fun e => by simp [Value.ownBlock] at e)).trans N0.out.op.ev))
    have SZ2 := N0.out.row.lt (w.heap.size + 1) rfl
    go_enter Try.func56, Try.ntmps56
    go_wp2_with fail
    try rw [hwz]
    go_region_held3 (fun w' => w'.cell? ⟨w.heap.size, 4, none⟩ = some (.bool df) ∧ w'.cell? ⟨w.heap.size, 3, none⟩ = some (.slice ao n cap)) (go_keep)
      (first
        | (go_at_call 74; (with_reducible refine (B0.out _).mono ?_); rintro r w6 ⟨rfl, rfl⟩)
        | (refine step_append_ints rfl _ _ rfl (w.heap.size + 1) (.slice (some ⟨w.heap.size + 1, 0, none⟩) 1 1) 1 (ints [6]) rfl (show World.ownsRow _ _ _ _ _ _ _ from N0.out.row.alloc _) wz.heap.size 2 2 [d, (n : Int)] rfl rfl (by exact heap_alloc_new wz (.cells #[.int .i64 d, .int .i64 n] 3)) (by omega) (by omega) (by simp; omega) ?_; intro g' cap' w7 hown hgr; have hg7 := ((World.grownBy_alloc wz (.cells #[.int .i64 d, .int .i64 n] 3) _).trans (gr_drew _ _)).trans hgr; obtain ⟨u0, u1, u2, u3, u4⟩ := CX.out w7 hg7; (try dsimp only at u0 u1 u2 u3 u4); have X7 := Lib.hid (And.intro hown hg7); clear hown hgr hg7))
    simp only [Nat.reduceAdd]
    have N1 := Lib.hid (show NSt (.slice ao n cap) ⟨6, a, b, cs, df⟩ [6, d, (n : Int)] (.slice (some ⟨g', 0, none⟩) 3 cap') w w7 from
      N0.out.grow (ys := [d, (n : Int)]) (v' := .slice (some ⟨g', 0, none⟩) 3 cap') X7.out.1 X7.out.2)
    clear N0 CX X7 u0 u1 u2 u3 u4 y0 y1 y2 y3 y4 hwz
    have N0 := N1
    clear hW z0 z1 z2 z3 z4
    obtain ⟨z0, z1, z2, z3, z4⟩ := five_cells N0.out.op.ev
    dsimp only at z0 z1 z2 z3 z4
    go_wp2_with fail
    go_loopw [3, 25] (fun s i wr => ∃ j : Nat, j ≤ n ∧ i = .int .i64 j ∧ NSt (.slice ao n cap) ⟨6, a, b, cs, df⟩ ([6, d, (n : Int)] ++ (cs.take j).flatMap csNums) s w wr) (fun _ i _ => n - (intOf i).toNat)
    case atStart => exact ⟨0, by omega, rfl, N0.out⟩
    case round =>
      obtain ⟨j, hj, rfl, hns⟩ := hrel
      obtain ⟨ao2, ca2, rfl⟩ := owns_slice hns.row
      have NS := Lib.hid hns
      have LEN := nums_len (cs.take j)
      clear hns z0 z1 z2 z3 z4
      by_cases hlt : j < n
      · have hlt' : (j : Int) < (n : Int) := by omega
        obtain ⟨g, z, rfl, cc⟩ := HC.out.at j (by have := HN.out; omega)
        obtain ⟨c0, c1, c2⟩ := cc.below (Nat.le_refl _) NS.out.op.bel
        have SN := Lib.hid (nums_snoc cs j (by have := HN.out; omega))
        have TJ : (cs.take j).length ≤ 4 := by rw [List.length_take]; omega
        obtain ⟨⟨sd, ch, va⟩, he⟩ : ∃ e, cs.getD j default = e := ⟨_, rfl⟩
        rw [he] at c0 c1 c2 SN
        dsimp only at c0 c1 c2
        have B1 := Lib.hid (rbit_any sd)
        have SN2 := Lib.hid (show (cs.take (j + 1)).flatMap csNums = (cs.take j).flatMap csNums ++ [bitI sd, ch, va] from SN.out)
        obtain ⟨e, he2⟩ : ∃ e, bitI sd = e := ⟨_, rfl⟩
        rw [he2] at B1 SN2
        obtain ⟨ys, hys⟩ : ∃ ys, (cs.take j).flatMap csNums = ys := ⟨_, rfl⟩
        rw [hys] at NS SN2 LEN
        obtain ⟨len, hlen⟩ : ∃ len, ([6, d, (n : Int)] ++ ys).length = len := ⟨_, rfl⟩
        have hlen2 : len ≤ 20 := by rw [← hlen]; simp; omega
        rw [hys, hlen]
        have ROW := Lib.hid (show wr.ownsRow (w.heap.size + 1) 3 1 (.slice ao2 len ca2) len (ints ([6, d, (n : Int)] ++ ys)) by have := NS.out.row; rw [hlen] at this; exact this)
        have HLEN := Lib.hid hlen
        have NS2 := Lib.hid (show NSt (.slice (some ⟨g, z, none⟩) n cap) ⟨6, a, b, cs, df⟩ ([6, d, (n : Int)] ++ ys) (.slice ao2 len ca2) w wr by have h := NS.out; rw [hlen] at h; exact h)
        clear he he2 cc SN hys hlen LEN
        go_wp2_with fail
        obtain ⟨X, hX⟩ : ∃ X, wr.alloc (.cells #[.bool sd, .int .i64 ch, .int .i64 va] 50) = X := ⟨_, rfl⟩
        have XB : Below wr.heap.size wr X := by rw [← hX]; exact (Below.refl wr.heap.size wr).alloc (Nat.le_refl _) _
        have XC : X.heap[wr.heap.size]? = some (Obj.cells #[.bool sd, .int .i64 ch, .int .i64 va] 50 (0, 0)) := by rw [← hX]; exact heap_alloc_new wr _
        have XS : X.heap.size = wr.heap.size + 1 := by rw [← hX]; simp
        rw [hX]
        obtain ⟨x0, x1, x2⟩ := three_cells XC
        have ROWX := Lib.hid (ROW.out.kept (below_grown XB) (by cases (Value.slice ao2 len ca2).ownBlock <;> simp))
        have XBH := Lib.hid XB
        have XSZ := Lib.hid (show w.heap.size + 1 ≤ X.heap.size by have := NS.out.op.bel.size; have := lt_of_heap NS.out.op.ev; omega)
        have CX := Lib.hid (fun (w8 : World) (hg : X.grownBy w8 (Value.slice ao2 len ca2).ownBlock) => three_cells ((hg.block wr.heap.size (lt_of_heap XC) (fun e => by have := (ROW.out.lt _ e.symm).2; omega)).trans XC))
        clear hX XB XC
        go_region_held3 (fun w' => w'.cell? ⟨wr.heap.size, 0, none⟩ = some (.bool sd) ∧ w'.cell? ⟨wr.heap.size, 1, none⟩ = some (.int .i64 ch) ∧ w'.cell? ⟨wr.heap.size, 2, none⟩ = some (.int .i64 va)) (go_keep)
          (first
            | (go_at_call 74; (with_reducible refine (B1.out _).mono ?_); rintro r w6 ⟨rfl, rfl⟩)
            | (refine step_append_ints rfl _ _ rfl (w.heap.size + 1) (.slice ao2 len ca2) len (ints ([6, d, (n : Int)] ++ ys)) rfl (show World.ownsRow _ _ _ _ _ _ _ from ROWX.out.alloc _) (wr.heap.size + 1) 3 3 [e, ch, va] rfl rfl (by have h := heap_alloc_new X (.cells #[.int .i64 e, .int .i64 ch, .int .i64 va] 3); rw [XS] at h; exact h) (by omega) (by omega) (by have := XSZ.out; simp; omega) ?_; intro g' cap' w7 hown hgr; have hg7 := ((World.grownBy_alloc X (.cells #[.int .i64 e, .int .i64 ch, .int .i64 va] 3) _).trans (gr_drew _ _)).trans hgr; obtain ⟨y0, y1, y2⟩ := CX.out w7 hg7; have X7 := Lib.hid (And.intro hown hg7); clear hown hgr hg7))
        have N7 := Lib.hid (show NSt (.slice (some ⟨g, z, none⟩) n cap) ⟨6, a, b, cs, df⟩ ([6, d, (n : Int)] ++ ys ++ [e, ch, va]) (.slice (some ⟨g', 0, none⟩) (len + 3) cap') w w7 from
          (NS2.out.below XBH.out).grow (ys := [e, ch, va]) (v' := .slice (some ⟨g', 0, none⟩) (len + 3) cap') (by have h := X7.out.1; rw [← HLEN.out] at h ⊢; exact h) X7.out.2)
        clear X7 y0 y1 y2
        go_wp2_with fail
        go_roundw
        case rel => exact ⟨j + 1, by omega, by go_num, by rw [SN2.out, ← List.append_assoc]; exact N7.out⟩
        case measure => simp [intOf] <;> omega
      · have hge : (n : Int) ≤ j := by omega
        have EQ := Lib.hid (show numsO ⟨6, a, b, cs, df⟩ p = [6, d, (n : Int)] ++ (cs.take j).flatMap csNums by rw [NM.out, List.take_of_length_le (by have := HN.out; omega)])
        clear hlt
        go_wp2_with fail
        go_ret
        exact ⟨_, rfl, by rw [EQ.out]; exact NS.out.row, NS.out.op.bel⟩
  · have hk' : (k == 6) = false := by simpa using hk
    have L := Lib.hid (fun w => row_any k h1 h9 w)
    have DA := Lib.hid (rA_dot h1 h9 hp)
    have DB := Lib.hid (rB_dot h1 h9)
    have NM := Lib.hid (show numsO ⟨k, a, b, cs, df⟩ p = [k] ++ (if 0 < limA k p then [a] else []) ++ (if 0 < limB k then [b] else []) by unfold numsO; rw [if_neg hk])
    obtain ⟨la, hla⟩ : ∃ x, limA k p = x := ⟨_, rfl⟩
    obtain ⟨lb, hlb⟩ : ∃ x, limB k = x := ⟨_, rfl⟩
    rw [hla, hlb] at NM
    rw [hla] at DA
    rw [hlb] at DB
    obtain ⟨sa, hsa⟩ : ∃ x, rA k = x := ⟨_, rfl⟩
    obtain ⟨sb, hsb⟩ : ∃ x, rB k = x := ⟨_, rfl⟩
    rw [hsa, hsb] at L DA DB
    clear hla hlb hk hsa hsb
    have N0 := Lib.hid (show NSt (.slice ao n cap) ⟨k, a, b, cs, df⟩ [k] (.slice (some ⟨w.heap.size + 1, 0, none⟩) 1 1) w (W.alloc (.cells #[.int .i64 k] 3)) by
      have := owns_new W (w.heap.size + 1) [k] (by omega) (by simp) 3
      rw [SW] at this
      exact ⟨this, EW.out.below ((Below.refl _ W).alloc (Nat.le_refl _) _)⟩)
    obtain ⟨wz, hwz⟩ : ∃ Z, W.alloc (.cells #[.int .i64 k] 3) = Z := ⟨_, rfl⟩
    rw [hwz] at N0
    obtain ⟨y0, y1, y2, y3, y4⟩ := five_cells N0.out.op.ev
    dsimp only at y0 y1 y2 y3 y4
    go_enter Try.func56, Try.ntmps56
    go_wp2_with fail
    try rw [hwz]
    refine (L.out _).mono ?_
    rintro r w1 ⟨rfl, hB1⟩
    have N0 := Lib.hid (N0.out.below hB1)
    clear hB1 hwz
    clear z0 z1 z2 z3 z4 hW y0 y1 y2 y3 y4
    by_cases ha : 0 < la
    · have DA' : (btI [sa, sb] 0 != 46) = true := by rw [DA.out]; exact decide_eq_true ha
      obtain ⟨z0, z1, z2, z3, z4⟩ := five_cells N0.out.op.ev
      dsimp only at z0 z1 z2 z3 z4
      have SZ0 := N0.out.op.bel.size
      have SZ1 := lt_of_heap N0.out.op.ev
      go_wp2_with (at_builtin; refine wpList_append_ints rfl _ _ rfl (w.heap.size + 1) (.slice (some ⟨w.heap.size + 1, 0, none⟩) 1 1) 1 (ints [k]) rfl (show World.ownsRow _ _ _ _ _ _ _ from N0.out.row.alloc _) w1.heap.size 1 1 [a] rfl rfl (heap_alloc_new _ _) (by omega) (by omega) (by simp; omega) ?_)
      intro g7 cap7 w7 hown hgr
      have N7 := Lib.hid (show NSt (.slice ao n cap) ⟨k, a, b, cs, df⟩ ([k] ++ [a]) (.slice (some ⟨g7, 0, none⟩) 2 cap7) w w7 from
        N0.out.grow (ys := [a]) (v' := .slice (some ⟨g7, 0, none⟩) 2 cap7) hown ((World.grownBy_alloc w1 (.cells #[.int .i64 a] 3) _).trans hgr))
      clear hown hgr z0 z1 z2 z3 z4 SZ0 SZ1 N0
      have NZ := N7
      clear N7
      by_cases hb : 0 < lb
      · have DB' : (btI [sa, sb] 1 != 46) = true := by rw [DB.out]; exact decide_eq_true hb
        have NM2 := Lib.hid (show numsO ⟨k, a, b, cs, df⟩ p = ([k] ++ [a]) ++ [b] by rw [NM.out, if_pos hb]; simp [ha])
        obtain ⟨z0, z1, z2, z3, z4⟩ := five_cells NZ.out.op.ev
        dsimp only at z0 z1 z2 z3 z4
        have ROWZ := NZ.out.row
        have SZ := NZ.out.op.bel.size
        have SZ2 := lt_of_heap NZ.out.op.ev
        go_wp2_with (at_builtin; refine wpList_append_ints rfl _ _ rfl (w.heap.size + 1) (.slice (some ⟨g7, 0, none⟩) 2 cap7) 2 (ints ([k] ++ [a])) rfl (show World.ownsRow _ _ _ _ _ _ _ from NZ.out.row.alloc _) w7.heap.size 1 1 [b] rfl rfl (heap_alloc_new _ _) (by omega) (by omega) (by simp; omega) ?_)
        intro g' cap' w8 hown hgr
        have N8 := Lib.hid (show NSt (.slice ao n cap) ⟨k, a, b, cs, df⟩ (([k] ++ [a]) ++ [b]) (.slice (some ⟨g', 0, none⟩) (2 + 1) cap') w w8 from
          NZ.out.grow (ys := [b]) (v' := .slice (some ⟨g', 0, none⟩) (2 + 1) cap') hown ((World.grownBy_alloc w7 (.cells #[.int .i64 b] 3) _).trans hgr))
        clear hown hgr ROWZ z0 z1 z2 z3 z4
        go_wp2_with fail
        go_ret
        exact ⟨_, rfl, by rw [NM2.out]; exact N8.out.row, N8.out.op.bel⟩
      · have DB' : (btI [sa, sb] 1 != 46) = false := by rw [DB.out]; exact decide_eq_false hb
        have NM2 := Lib.hid (show numsO ⟨k, a, b, cs, df⟩ p = ([k] ++ [a]) by rw [NM.out, if_neg hb]; simp [ha])
        go_wp2_with fail
        go_ret
        exact ⟨_, rfl, by rw [NM2.out]; exact NZ.out.row, NZ.out.op.bel⟩
    · have DA' : (btI [sa, sb] 0 != 46) = false := by rw [DA.out]; exact decide_eq_false ha
      have NZ := N0
      clear N0
      by_cases hb : 0 < lb
      · have DB' : (btI [sa, sb] 1 != 46) = true := by rw [DB.out]; exact decide_eq_true hb
        have NM2 := Lib.hid (show numsO ⟨k, a, b, cs, df⟩ p = [k] ++ [b] by rw [NM.out, if_pos hb]; simp [ha])
        obtain ⟨z0, z1, z2, z3, z4⟩ := five_cells NZ.out.op.ev
        dsimp only at z0 z1 z2 z3 z4
        have ROWZ := NZ.out.row
        have SZ := NZ.out.op.bel.size
        have SZ2 := lt_of_heap NZ.out.op.ev
        go_wp2_with (at_builtin; refine wpList_append_ints rfl _ _ rfl (w.heap.size + 1) (.slice (some ⟨w.heap.size + 1, 0, none⟩) 1 1) 1 (ints [k]) rfl (show World.ownsRow _ _ _ _ _ _ _ from NZ.out.row.alloc _) w1.heap.size 1 1 [b] rfl rfl (heap_alloc_new _ _) (by omega) (by omega) (by simp; omega) ?_)
        intro g' cap' w8 hown hgr
        have N8 := Lib.hid (show NSt (.slice ao n cap) ⟨k, a, b, cs, df⟩ ([k] ++ [b]) (.slice (some ⟨g', 0, none⟩) (1 + 1) cap') w w8 from
          NZ.out.grow (ys := [b]) (v' := .slice (some ⟨g', 0, none⟩) (1 + 1) cap') hown ((World.grownBy_alloc w1 (.cells #[.int .i64 b] 3) _).trans hgr))
        clear hown hgr ROWZ z0 z1 z2 z3 z4
        go_wp2_with fail
        go_ret
        exact ⟨_, rfl, by rw [NM2.out]; exact N8.out.row, N8.out.op.bel⟩
      · have DB' : (btI [sa, sb] 1 != 46) = false := by rw [DB.out]; exact decide_eq_false hb
        have NM2 := Lib.hid (show numsO ⟨k, a, b, cs, df⟩ p = [k] by rw [NM.out, if_neg hb]; simp [ha])
        go_wp2_with fail
        go_ret
        exact ⟨_, rfl, by rw [NM2.out]; exact NZ.out.row, NZ.out.op.bel⟩
end Go.Proofs.Ytpefjcmaggimhaa

