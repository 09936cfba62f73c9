
/-
  Layer 4: Names of both.
-/
import Derived.Test.YtobgdchlblhaiaaDeeG
namespace Go.Proofs.Ytobgdchlblhaiaa
open Go.RowKit
set_option linter.unusedVariables false
set_option linter.unusedSimpArgs false
set_option maxRecDepth 100000

def namesO (o : Opn) : List Int := if 2 ≤ o.k ∧ o.k ≤ 5 then [o.a] else if o.k = 6 then o.cs.map Cs.ch else []
def NamesPost (o : Opn) (w : World) (r : Ending) (w' : World) : Prop := ∃ v, r = .returned v ∧ SlI w' v (namesO o) ∧ Below w.heap.size w w'
theorem map_snoc (cs : List Cs) (j : Nat) (h : j < cs.length) : (cs.take (j + 1)).map Cs.ch = (cs.take j).map Cs.ch ++ [(cs.getD j default).ch] := by
  have e : cs.take (j + 1) = cs.take j ++ [cs.getD j default] := by rw [List.take_add_one]; simp [List.getD, h]
  rw [e, List.map_append]; rfl

set_option maxHeartbeats 4000000 in
theorem names_any (o : Opn) (v : Value) (w : World) (h : CssOf w v o.cs) (hn : o.cs.length ≤ 1000) : Calls Try.prog 19 #[opV v o] w (NamesPost o w) := by
  obtain ⟨k, a, b, cs, df⟩ := o
  obtain ⟨ao, cap, rfl⟩ := h.shape
  dsimp only at h hn ⊢
  obtain ⟨n, hnn⟩ : ∃ n, cs.length = n := ⟨_, rfl⟩
  rw [hnn] at h hn
  have HC := Lib.hid h
  have HN := Lib.hid hnn
  have E0 := OpAt.new (.slice ao n cap) ⟨k, a, b, cs, df⟩ w
  rw [hnn]
  obtain ⟨W, hW⟩ : ∃ W, w.alloc (.cells #[.int .i64 k, .int .i64 a, .int .i64 b, .slice ao n cap, .bool df] 24) = W := ⟨_, rfl⟩
  dsimp only at E0
  rw [hW] at E0
  have SW : W.heap.size = w.heap.size + 1 := by rw [← hW]; simp
  have EW := Lib.hid E0
  obtain ⟨z0, z1, z2, z3, z4⟩ := five_cells E0.ev
  dsimp only at z0 z1 z2 z3 z4
  unfold opV
  dsimp only
  clear E0 h hnn
  by_cases h2 : k = 2
  · subst h2
    have NM := Lib.hid (show namesO ⟨2, a, b, cs, df⟩ = [a] by unfold namesO; dsimp only; rw [if_pos (by decide)])
    go_enter Try.func19, Try.ntmps19
    go_wp2_with fail
    go_ret
    exact ⟨_, rfl, by rw [NM.out]; have := owns_new W (w.heap.size + 1) [a] (by omega) (by simp) 3; rw [SW] at this; exact SlI.of_owns this, EW.out.bel.alloc EW.out.bel.size _⟩
  by_cases h3 : k = 3
  · subst h3
    have NM := Lib.hid (show namesO ⟨3, a, b, cs, df⟩ = [a] by unfold namesO; dsimp only; rw [if_pos (by decide)])
    go_enter Try.func19, Try.ntmps19
    go_wp2_with fail
    go_ret
    exact ⟨_, rfl, by rw [NM.out]; have := owns_new W (w.heap.size + 1) [a] (by omega) (by simp) 3; rw [SW] at this; exact SlI.of_owns this, EW.out.bel.alloc EW.out.bel.size _⟩
  by_cases h4 : k = 4
  · subst h4
    have NM := Lib.hid (show namesO ⟨4, a, b, cs, df⟩ = [a] by unfold namesO; dsimp only; rw [if_pos (by decide)])
    go_enter Try.func19, Try.ntmps19
    go_wp2_with fail
    go_ret
    exact ⟨_, rfl, by rw [NM.out]; have := owns_new W (w.heap.size + 1) [a] (by omega) (by simp) 3; rw [SW] at this; exact SlI.of_owns this, EW.out.bel.alloc EW.out.bel.size _⟩
  by_cases h5 : k = 5
  · subst h5
    have NM := Lib.hid (show namesO ⟨5, a, b, cs, df⟩ = [a] by unfold namesO; dsimp only; rw [if_pos (by decide)])
    go_enter Try.func19, Try.ntmps19
    go_wp2_with fail
    go_ret
    exact ⟨_, rfl, by rw [NM.out]; have := owns_new W (w.heap.size + 1) [a] (by omega) (by simp) 3; rw [SW] at this; exact SlI.of_owns this, EW.out.bel.alloc EW.out.bel.size _⟩
  by_cases h6 : k = 6
  · subst h6
    have NM := Lib.hid (show namesO ⟨6, a, b, cs, df⟩ = cs.map Cs.ch by unfold namesO; dsimp only; rw [if_neg (by decide), if_pos rfl])
    have N0 := Lib.hid (show NSt (.slice ao n cap) ⟨6, a, b, cs, df⟩ [] (.slice none 0 0) w W from ⟨World.ownsRow_nil _ _ _ _, EW.out⟩)
    go_enter Try.func19, Try.ntmps19
    go_wp2_with fail
    go_loopw [3, 21] (fun s i wr => ∃ j : Nat, j ≤ n ∧ i = .int .i64 j ∧ NSt (.slice ao n cap) ⟨6, a, b, cs, df⟩ ((cs.take j).map Cs.ch) s w wr) (fun _ i _ => n - (intOf i).toNat)
    case atStart => exact ⟨0, by omega, rfl, N0.out⟩
    case round =>
      obtain ⟨j, hj, rfl, hns⟩ := hrel
      have LEN : ((cs.take j).map Cs.ch).length = j := by rw [List.length_map, List.length_take]; have := HN.out; omega
      have hrow := hns.row
      rw [LEN] at hrow
      obtain ⟨ao2, ca2, rfl⟩ := owns_slice hrow
      have NS := Lib.hid hns
      have ROW := Lib.hid hrow
      have LN := Lib.hid LEN
      clear hns z0 z1 z2 z3 z4 hrow LEN hW
      by_cases hlt : j < n
      · have hlt' : (j : Int) < (n : Int) := by omega
        obtain ⟨g, z, rfl, cc⟩ := HC.out.at j (by have := HN.out; omega)
        obtain ⟨c0, c1, c2⟩ := cc.below (Nat.le_refl _) NS.out.op.bel
        have SN := Lib.hid (map_snoc cs j (by have := HN.out; omega))
        obtain ⟨⟨sd, ch, va⟩, he⟩ : ∃ e, cs.getD j default = e := ⟨_, rfl⟩
        rw [he] at c0 c1 c2 SN
        dsimp only at c0 c1 c2
        obtain ⟨ys, hys⟩ : ∃ ys, (cs.take j).map Cs.ch = ys := ⟨_, rfl⟩
        rw [hys] at SN ROW NS LN
        have SZ := NS.out.op.bel.size
        have SZ2 := lt_of_heap NS.out.op.ev
        clear he cc hys
        have XC := Lib.hid (heap_alloc_new wr (.cells #[.bool sd, .int .i64 ch, .int .i64 va] 67))
        go_wp2_with (at_builtin; refine wpList_append_ints rfl _ _ rfl (w.heap.size + 1) (.slice ao2 j ca2) j (ints ys) rfl (show World.ownsRow _ _ _ _ _ _ _ from (ROW.out.alloc _).alloc _) (wr.heap.size + 1) 1 1 [ch] rfl rfl (by have h := heap_alloc_new (wr.alloc (.cells #[.bool sd, .int .i64 ch, .int .i64 va] 67)) (.cells #[.int .i64 ch] 3); rw [World.size_alloc] at h; exact h) (by omega) (by omega) (by simp; omega) ?_)
        intro g' cap' w8 hown hgr
        have N8 := Lib.hid (show NSt (.slice (some ⟨g, z, none⟩) n cap) ⟨6, a, b, cs, df⟩ ((cs.take (j + 1)).map Cs.ch) (.slice (some ⟨g', 0, none⟩) (j + 1) cap') w w8 by
          rw [SN.out]
          refine (NS.out.below (((Below.refl wr.heap.size wr).alloc (Nat.le_refl _) (.cells #[.bool sd, .int .i64 ch, .int .i64 va] 67)))).grow (ys := [ch]) (v' := .slice (some ⟨g', 0, none⟩) (j + 1) cap') ?_ ((World.grownBy_alloc _ (.cells #[.int .i64 ch] 3) _).trans hgr)
          rw [LN.out]
          exact hown)
        clear hown hgr
        go_wp2_with fail
        go_roundw
        case rel => exact ⟨j + 1, by omega, by go_num, N8.out⟩
        case measure => simp [intOf] <;> omega
      · have hge : (n : Int) ≤ j := by omega
        have EQ := Lib.hid (show namesO ⟨6, a, b, cs, df⟩ = (cs.take j).map Cs.ch by rw [NM.out, List.take_of_length_le (by have := HN.out; omega)])
        clear hlt
        go_wp2_with fail
        go_ret
        exact ⟨_, rfl, by rw [EQ.out]; exact SlI.of_owns NS.out.row, NS.out.op.bel⟩
  have NM := Lib.hid (show namesO ⟨k, a, b, cs, df⟩ = [] by unfold namesO; dsimp only; rw [if_neg (by omega), if_neg h6])
  have e2 : (k == 2) = false := by simpa using h2
  have e3 : (k == 3) = false := by simpa using h3
  have e4 : (k == 4) = false := by simpa using h4
  have e5 : (k == 5) = false := by simpa using h5
  have e6 : (k == 6) = false := by simpa using h6
  clear h2 h3 h4 h5 h6
  go_enter Try.func19, Try.ntmps19
  go_wp2_with fail
  go_ret
  exact ⟨_, rfl, by rw [NM.out]; exact SlI.nil _, EW.out.bel⟩

set_option maxHeartbeats 4000000 in
theorem rnames_any (o : Opn) (v : Value) (w : World) (h : CssOf w v o.cs) (hn : o.cs.length ≤ 1000) : Calls Try.prog 20 #[opV v o] w (NamesPost o w) := by
  obtain ⟨k, a, b, cs, df⟩ := o
  obtain ⟨ao, cap, rfl⟩ := h.shape
  dsimp only at h hn ⊢
  obtain ⟨n, hnn⟩ : ∃ n, cs.length = n := ⟨_, rfl⟩
  rw [hnn] at h hn
  have HC := Lib.hid h
  have HN := Lib.hid hnn
  have E0 := OpAt.new (.slice ao n cap) ⟨k, a, b, cs, df⟩ w
  rw [hnn]
  obtain ⟨W, hW⟩ : ∃ W, w.alloc (.cells #[.int .i64 k, .int .i64 a, .int .i64 b, .slice ao n cap, .bool df] 24) = W := ⟨_, rfl⟩
  dsimp only at E0
  rw [hW] at E0
  have SW : W.heap.size = w.heap.size + 1 := by rw [← hW]; simp
  have EW := Lib.hid E0
  obtain ⟨z0, z1, z2, z3, z4⟩ := five_cells E0.ev
  dsimp only at z0 z1 z2 z3 z4
  unfold opV
  dsimp only
  clear E0 h hnn
  by_cases h6 : k = 6
  · subst h6
    have NM := Lib.hid (show namesO ⟨6, a, b, cs, df⟩ = cs.map Cs.ch by unfold namesO; dsimp only; rw [if_neg (by decide), if_pos rfl])
    have N0 := Lib.hid (show NSt (.slice ao n cap) ⟨6, a, b, cs, df⟩ [] (.slice none 0 0) w W from ⟨World.ownsRow_nil _ _ _ _, EW.out⟩)
    go_enter Try.func20, Try.ntmps20
    go_wp2_with fail
    go_loopw [3, 25] (fun s i wr => ∃ j : Nat, j ≤ n ∧ i = .int .i64 j ∧ NSt (.slice ao n cap) ⟨6, a, b, cs, df⟩ ((cs.take j).map Cs.ch) s w wr) (fun _ i _ => n - (intOf i).toNat)
    case atStart => exact ⟨0, by omega, rfl, N0.out⟩
    case round =>
      obtain ⟨j, hj, rfl, hns⟩ := hrel
      have LEN : ((cs.take j).map Cs.ch).length = j := by rw [List.length_map, List.length_take]; have := HN.out; omega
      have hrow := hns.row
      rw [LEN] at hrow
      obtain ⟨ao2, ca2, rfl⟩ := owns_slice hrow
      have NS := Lib.hid hns
      have ROW := Lib.hid hrow
      have LN := Lib.hid LEN
      clear hns z0 z1 z2 z3 z4 hrow LEN hW
      by_cases hlt : j < n
      · have hlt' : (j : Int) < (n : Int) := by omega
        obtain ⟨g, z, rfl, cc⟩ := HC.out.at j (by have := HN.out; omega)
        obtain ⟨c0, c1, c2⟩ := cc.below (Nat.le_refl _) NS.out.op.bel
        have SN := Lib.hid (map_snoc cs j (by have := HN.out; omega))
        obtain ⟨⟨sd, ch, va⟩, he⟩ : ∃ e, cs.getD j default = e := ⟨_, rfl⟩
        rw [he] at c0 c1 c2 SN
        dsimp only at c0 c1 c2
        obtain ⟨ys, hys⟩ : ∃ ys, (cs.take j).map Cs.ch = ys := ⟨_, rfl⟩
        rw [hys] at SN ROW NS LN
        have SZ := NS.out.op.bel.size
        have SZ2 := lt_of_heap NS.out.op.ev
        clear he cc hys
        have XC := Lib.hid (heap_alloc_new wr (.cells #[.bool sd, .int .i64 ch, .int .i64 va] 67))
        go_wp2_with (at_builtin; refine wpList_append_ints rfl _ _ rfl (w.heap.size + 1) (.slice ao2 j ca2) j (ints ys) rfl (show World.ownsRow _ _ _ _ _ _ _ from (ROW.out.alloc _).alloc _) (wr.heap.size + 1) 1 1 [ch] rfl rfl (by have h := heap_alloc_new (wr.alloc (.cells #[.bool sd, .int .i64 ch, .int .i64 va] 67)) (.cells #[.int .i64 ch] 3); rw [World.size_alloc] at h; exact h) (by omega) (by omega) (by simp; omega) ?_)
        intro g' cap' w8 hown hgr
        have N8 := Lib.hid (show NSt (.slice (some ⟨g, z, none⟩) n cap) ⟨6, a, b, cs, df⟩ ((cs.take (j + 1)).map Cs.ch) (.slice (some ⟨g', 0, none⟩) (j + 1) cap') w w8 by
          rw [SN.out]
          refine (NS.out.below (((Below.refl wr.heap.size wr).alloc (Nat.le_refl _) (.cells #[.bool sd, .int .i64 ch, .int .i64 va] 67)))).grow (ys := [ch]) (v' := .slice (some ⟨g', 0, none⟩) (j + 1) cap') ?_ ((World.grownBy_alloc _ (.cells #[.int .i64 ch] 3) _).trans hgr)
          rw [LN.out]
          exact hown)
        clear hown hgr
        go_wp2_with fail
        go_roundw
        case rel => exact ⟨j + 1, by omega, by go_num, N8.out⟩
        case measure => simp [intOf] <;> omega
      · have hge : (n : Int) ≤ j := by omega
        have EQ := Lib.hid (show namesO ⟨6, a, b, cs, df⟩ = (cs.take j).map Cs.ch by rw [NM.out, List.take_of_length_le (by have := HN.out; omega)])
        clear hlt
        go_wp2_with fail
        go_ret
        exact ⟨_, rfl, by rw [EQ.out]; exact SlI.of_owns NS.out.row, NS.out.op.bel⟩
  have e6 : (k == 6) = false := by simpa using h6
  by_cases h2 : 2 ≤ k
  · have d2 : decide (2 ≤ k) = true := decide_eq_true h2
    by_cases h5 : k ≤ 5
    · have d5 : decide (k ≤ 5) = true := decide_eq_true h5
      have NM := Lib.hid (show namesO ⟨k, a, b, cs, df⟩ = [a] by unfold namesO; dsimp only; rw [if_pos ⟨h2, h5⟩])
      have N0 := Lib.hid (show NSt (.slice ao n cap) ⟨k, a, b, cs, df⟩ [] (.slice none 0 0) w W from ⟨World.ownsRow_nil _ _ _ _, EW.out⟩)
      clear h2 h5 h6
      go_enter Try.func20, Try.ntmps20
      go_wp2_with (at_builtin; refine wpList_append_ints rfl _ _ rfl (w.heap.size + 1) (.slice none 0 0) 0 [] rfl (World.ownsRow_nil _ _ _ _) (w.heap.size + 1) 1 1 [a] rfl rfl (by have h := heap_alloc_new W (.cells #[.int .i64 a] 3); rw [SW] at h; exact h) (by omega) (by omega) (by simp; omega) ?_)
      intro g' cap' w8 hown hgr
      have N8 := Lib.hid (show NSt (.slice ao n cap) ⟨k, a, b, cs, df⟩ [a] (.slice (some ⟨g', 0, none⟩) 1 cap') w w8 from
        N0.out.grow (xs := []) (ys := [a]) (v' := .slice (some ⟨g', 0, none⟩) 1 cap') hown ((World.grownBy_alloc _ (.cells #[.int .i64 a] 3) _).trans hgr))
      clear hown hgr
      obtain ⟨y0, y1, y2, y3, y4⟩ := five_cells N8.out.op.ev
      dsimp only at y0 y1 y2 y3 y4
      go_wp2_with fail
      go_ret
      exact ⟨_, rfl, by rw [NM.out]; exact SlI.of_owns N8.out.row, N8.out.op.bel⟩
    · have d5 : decide (k ≤ 5) = false := decide_eq_false h5
      have NM := Lib.hid (show namesO ⟨k, a, b, cs, df⟩ = [] by unfold namesO; dsimp only; rw [if_neg (by omega), if_neg h6])
      clear h2 h5 h6
      go_enter Try.func20, Try.ntmps20
      go_wp2_with fail
      go_ret
      exact ⟨_, rfl, by rw [NM.out]; exact SlI.nil _, EW.out.bel⟩
  · have d2 : decide (2 ≤ k) = false := decide_eq_false h2
    have NM := Lib.hid (show namesO ⟨k, a, b, cs, df⟩ = [] by unfold namesO; dsimp only; rw [if_neg (by omega), if_neg h6])
    clear h2 h6
    go_enter Try.func20, Try.ntmps20
    go_wp2_with fail
    go_ret
    exact ⟨_, rfl, by rw [NM.out]; exact SlI.nil _, EW.out.bel⟩
end Go.Proofs.Ytobgdchlblhaiaa

