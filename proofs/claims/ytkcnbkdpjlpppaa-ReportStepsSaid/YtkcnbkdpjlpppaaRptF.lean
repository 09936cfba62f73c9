
/-
  Package report: First on a report.
-/
import Derived.Test.YtkcnbkdpjlpppaaRptE
namespace Go.Proofs.Ytkcnbkdpjlpppaa
open Go.RowKit
set_option linter.unusedVariables false
set_option linter.unusedSimpArgs false
set_option maxRecDepth 100000

theorem five_set {w : World} {p : Nat} {t : TypeId} {a0 a1 a2 a3 a4 : Value} (u0 u1 u2 u3 u4 : Value) (h : w.heap[p]? = some (Obj.cells #[a0, a1, a2, a3, a4] t (0, 0))) :
    (((((w.setCell ⟨p, 0, none⟩ u0).setCell ⟨p, 1, none⟩ u1).setCell ⟨p, 2, none⟩ u2).setCell ⟨p, 3, none⟩ u3).setCell ⟨p, 4, none⟩ u4).heap[p]? = some (Obj.cells #[u0, u1, u2, u3, u4] t (0, 0)) := by
  have h0 : (w.setCell ⟨p, 0, none⟩ u0).heap[p]? = _ := heap_setCell_same w p 0 _ _ _ h
  have h1 : (World.setCell _ ⟨p, 1, none⟩ u1).heap[p]? = _ := heap_setCell_same _ p 1 _ _ _ h0
  have h2 : (World.setCell _ ⟨p, 2, none⟩ u2).heap[p]? = _ := heap_setCell_same _ p 2 _ _ _ h1
  have h3 : (World.setCell _ ⟨p, 3, none⟩ u3).heap[p]? = _ := heap_setCell_same _ p 3 _ _ _ h2
  exact heap_setCell_same _ p 4 _ _ _ h3
theorem five_cells {w : World} {k : Nat} {t : TypeId} {a0 a1 a2 a3 a4 : Value} (h : w.heap[k]? = some (Obj.cells #[a0, a1, a2, a3, a4] t (0, 0))) :
    w.cell? ⟨k, 0, none⟩ = some a0 ∧ w.cell? ⟨k, 1, none⟩ = some a1 ∧ w.cell? ⟨k, 2, none⟩ = some a2 ∧ w.cell? ⟨k, 3, none⟩ = some a3 ∧ w.cell? ⟨k, 4, none⟩ = some a4 := by
  refine ⟨?_, ?_, ?_, ?_, ?_⟩ <;> (simp only [World.cell?, h]; rfl)
theorem five_frozen {w : World} {k : Nat} {t : TypeId} {a : Array Value} (h : w.heap[k]? = some (Obj.cells a t (0, 0))) (i : Nat) : w.frozen? ⟨k, i, none⟩ = false := by simp [World.frozen?, h]
theorem rfirst_any (B b mb n : Nat) (M : Int → Option Rce) (cs : Nat → Cel) (c : Int) (w : World) (h : Rp B w b mb n 8 M cs) (hc : (kI c).wf = true) :
    Calls Try.prog 10 #[.pointer (some ⟨b, 0, none⟩), .int .i64 c] w fun r w' => r = .returned (.tuple #[rcV ((M c).getD rce0), .bool (M c).isSome]) ∧ Below w.heap.size w w' := by
  obtain ⟨W, hW⟩ : ∃ W, w.alloc (.cells #[.int .i64 0, .int .i64 0, .int .i64 0, .int .i64 0, .bool false] 38) = W := ⟨_, rfl⟩
  have Bw : Below w.heap.size w W := by rw [← hW]; exact (Below.refl _ _).alloc (Nat.le_refl _) _
  have Z : W.heap[w.heap.size]? = some (.cells #[.int .i64 0, .int .i64 0, .int .i64 0, .int .i64 0, .bool false] 38 (0, 0)) := by rw [← hW]; exact heap_alloc_new w _
  have R1 := h.below Bw
  have LK := R1.mp.look c hc
  obtain ⟨-, r8⟩ := R1.cells
  obtain ⟨s, hs⟩ : ∃ s, (M c).isSome = s := ⟨_, rfl⟩
  obtain ⟨⟨g0, g1, g2, g3, g4⟩, hr0⟩ : ∃ r0, (M c).getD rce0 = r0 := ⟨_, rfl⟩
  rw [hs, hr0] at LK ⊢
  unfold rcV at LK ⊢
  dsimp only at LK ⊢
  have HW := Lib.hid hW
  have HB := Lib.hid Bw
  have Z2 := (((Below.refl W.heap.size W).alloc (Nat.le_refl _) (.cells #[.int .i64 g0, .int .i64 g1, .int .i64 g2, .int .i64 g3, .bool g4] 38)).block _ (lt_of_heap Z)).trans Z
  obtain ⟨z0, z1, z2, z3, z4⟩ := five_cells Z2
  have y0 := five_frozen Z2 0
  have y1 := five_frozen Z2 1
  have y2 := five_frozen Z2 2
  have y3 := five_frozen Z2 3
  have y4 := five_frozen Z2 4
  have HZ := Lib.hid Z2
  obtain ⟨q, hq⟩ : ∃ q, w.heap.size = q := ⟨_, rfl⟩
  rw [hq] at HZ z0 z1 z2 z3 z4 y0 y1 y2 y3 y4
  have HQ := Lib.hid hq
  clear hq hW Bw h R1 hs hr0 Z Z2 hc
  go_enter Try.func10, Try.ntmps10
  go_upto_region 1 with fail
  rw [HW.out, HQ.out]
  go_wp2_with fail
  exact bodyPost_ret (v := .tuple #[.agg #[.int .i64 g0, .int .i64 g1, .int .i64 g2, .int .i64 g3, .bool g4], .bool s]) (results_cell_tmp2 Try.results10 _ _ _ _ rfl (load_five g0 g1 g2 g3 g4 (five_set _ _ _ _ _ HZ.out))) rfl ⟨rfl, by
    have b2 := HB.out.alloc HB.out.size (.cells #[.int .i64 g0, .int .i64 g1, .int .i64 g2, .int .i64 g3, .bool g4] 38)
    have le : w.heap.size ≤ q := Nat.le_of_eq HQ.out
    exact (((((b2.setCell (p := ⟨q, 0, none⟩) le _).setCell (p := ⟨q, 1, none⟩) le _).setCell (p := ⟨q, 2, none⟩) le _).setCell (p := ⟨q, 3, none⟩) le _).setCell (p := ⟨q, 4, none⟩) le _)⟩

/-! ### Rows of races -/
instance : Inhabited Rce := ⟨rce0⟩
def rcC (r : Rce) : Array Value := #[.int .i64 r.cell, .int .i64 r.a, .int .i64 r.b, .int .i64 r.f, .bool r.wr]
structure RceC (w : World) (b o : Nat) (e : Rce) : Prop where
  c0 : w.cell? ⟨b, o, none⟩ = some (.int .i64 e.cell)
  c1 : w.cell? ⟨b, o + 1, none⟩ = some (.int .i64 e.a)
  c2 : w.cell? ⟨b, o + 2, none⟩ = some (.int .i64 e.b)
  c3 : w.cell? ⟨b, o + 3, none⟩ = some (.int .i64 e.f)
  c4 : w.cell? ⟨b, o + 4, none⟩ = some (.bool e.wr)
theorem RceC.below {w w' : World} {b o : Nat} {r : Rce} (h : RceC w b o r) {n : Nat} (hn : w.heap.size ≤ n) (hB : Below n w w') : RceC w' b o r := by
  have hb : b < n := Nat.lt_of_lt_of_le (block_lt_of_cell h.c0) hn
  obtain ⟨c0, c1, c2, c3, c4⟩ := h
  have e : ∀ o, w'.cell? ⟨b, o, none⟩ = w.cell? ⟨b, o, none⟩ := fun o => hB.cell (p := ⟨b, o, none⟩) hb
  exact ⟨(e _).trans c0, (e _).trans c1, (e _).trans c2, (e _).trans c3, (e _).trans c4⟩
def RcesOf (w : World) (v : Value) (rs : List Rce) : Prop :=
  ∃ ao cap, v = .slice ao rs.length cap ∧ (0 < rs.length → ∃ b o, ao = some ⟨b, o, none⟩ ∧ ∀ i, i < rs.length → RceC w b (o + i * 5) (rs.getD i default))
theorem RcesOf.below {w w' : World} {v : Value} {rs : List Rce} (h : RcesOf w v rs) {n : Nat} (hn : w.heap.size ≤ n) (hB : Below n w w') : RcesOf w' v rs := by
  obtain ⟨ao, cap, rfl, hc⟩ := h
  refine ⟨ao, cap, rfl, fun hp => ?_⟩
  obtain ⟨b, o, rfl, hd⟩ := hc hp
  exact ⟨b, o, rfl, fun i hi => (hd i hi).below hn hB⟩
theorem RcesOf.shape {w : World} {v : Value} {rs : List Rce} (h : RcesOf w v rs) : ∃ ao cap, v = .slice ao rs.length cap := by
  obtain ⟨ao, cap, rfl, hc⟩ := h
  exact ⟨ao, cap, rfl⟩
theorem RcesOf.at {w : World} {ao : Option Addr} {n cap : Nat} {rs : List Rce} (h : RcesOf w (.slice ao n cap) rs) (i : Nat) (hi : i < rs.length) : ∃ b o, ao = some ⟨b, o, none⟩ ∧ RceC w b (o + i * 5) (rs.getD i default) := by
  obtain ⟨_, _, e, hc⟩ := h
  cases e
  obtain ⟨b, o, rfl, hd⟩ := hc (by omega)
  exact ⟨b, o, rfl, hd i hi⟩
def rcCells (es : List Rce) : List Value := es.flatMap fun e => (rcC e).toList
theorem rcC_len (e : Rce) : (rcC e).toList.length = 5 := rfl
theorem rcCells_at : ∀ (es : List Rce) (i : Nat), i < es.length → ∀ c, c < 5 → (rcCells es)[i * 5 + c]? = (rcC (es.getD i default)).toList[c]?
  | [], i, h, c, hc => by simp at h
  | e :: es, 0, h, c, hc => by
    show ((rcC e).toList ++ rcCells es)[0 * 5 + c]? = _
    rw [List.getElem?_append_left (by rw [rcC_len]; omega)]
    simp
  | e :: es, i + 1, h, c, hc => by
    show ((rcC e).toList ++ rcCells es)[(i + 1) * 5 + c]? = _
    rw [List.getElem?_append_right (by rw [rcC_len]; omega), rcC_len, show (i + 1) * 5 + c - 5 = i * 5 + c by omega, rcCells_at es i (by simpa using h) c hc]
    simp
theorem rcCells_snoc (es : List Rce) (e : Rce) : rcCells (es ++ [e]) = rcCells es ++ (rcC e).toList := by
  simp [rcCells, List.flatMap_append]
theorem rcC_one (e : Rce) : ∀ u ∈ (rcC e).toList, u.oneCell' = true := by
  intro u hu
  simp [rcC] at hu
  rcases hu with rfl | rfl | rfl | rfl | rfl <;> rfl
theorem rces_of_own {w : World} {base : Nat} {v : Value} {es : List Rce} (h : w.ownsRow base 38 5 v es.length (rcCells es)) : RcesOf w v es := by
  rcases h.2 with ⟨rfl, h0⟩ | ⟨g, cap, cur, rfl, hbg, hg, hnc, hcm, hcs, htake⟩
  · exact ⟨none, 0, by rw [h0], fun hp => by omega⟩
  · refine ⟨some ⟨g, 0, none⟩, cap, rfl, fun _ => ⟨g, 0, rfl, fun i hi => ?_⟩⟩
    have key : ∀ c u, c < 5 → (rcC (es.getD i default)).toList[c]? = some u → w.cell? ⟨g, 0 + i * 5 + c, none⟩ = some u := fun c u hc hu => by
      have := h.cells (g := g) rfl (i * 5 + c) u (by rw [rcCells_at es i hi c hc]; exact hu)
      rw [Go.WideShapes.add_plain, ← Nat.add_assoc] at this
      exact this
    exact ⟨key 0 _ (by omega) rfl, key 1 _ (by omega) rfl, key 2 _ (by omega) rfl, key 3 _ (by omega) rfl, key 4 _ (by omega) rfl⟩
theorem rceinfo : (Try.prog.info? 38).map (fun i => (i.zero, i.size, i.bytes)) = some (some (.agg (rcC rce0)), 5, 40) := by kernel_rfl
theorem below_grown_none {w w' : World} (h : Below w.heap.size w w') : w.grownBy w' none := ⟨h.os, h.tape, h.output, h.size, fun k hk _ => h.block k hk⟩
theorem rown_slice {w : World} {base size n : Nat} {e : TypeId} {v : Value} {xs : List Value} (h : w.ownsRow base e size v n xs) : ∃ ao cap, v = .slice ao n cap := by
  rcases h.2 with ⟨rfl, rfl⟩ | ⟨g, c, cur, rfl, _⟩
  · exact ⟨_, _, rfl⟩
  · exact ⟨_, _, rfl⟩
theorem rrange_lit (w : World) (cs : List Value) (t : TypeId) (j : Nat) (u : Value) (h : cs[j]? = some u) : (w.alloc (.cells cs.toArray t)).cell? (Addr.add ⟨w.heap.size, 0, none⟩ j) = some u := by
  rw [Addr.add_mid]
  simp only [World.cell?, heap_alloc_new, Nat.zero_add]
  simpa using h
/-- The first races of the cells below k. -/
def upto (M : Int → Option Rce) (k : Nat) : List Rce := (List.range k).filterMap (fun i : Nat => M (i : Int))
theorem upto_none {M : Int → Option Rce} {k : Nat} (h : M k = none) : upto M (k + 1) = upto M k := by
  unfold upto
  rw [List.range_succ, List.filterMap_append]
  simp [h]
theorem upto_some {M : Int → Option Rce} {k : Nat} {r : Rce} (h : M k = some r) : upto M (k + 1) = upto M k ++ [r] := by
  unfold upto
  rw [List.range_succ, List.filterMap_append]
  simp [h]
theorem upto_len (M : Int → Option Rce) (k : Nat) : (upto M k).length ≤ k := by
  unfold upto
  exact Nat.le_trans (List.length_filterMap_le _ _) (by simp)
def RacesPost (M : Int → Option Rce) (w : World) (r : Ending) (w' : World) : Prop := ∃ v, r = .returned v ∧ RcesOf w' v (upto M 8) ∧ Below w.heap.size w w'
set_option maxHeartbeats 1000000 in
theorem rraces_any (B b mb n : Nat) (M : Int → Option Rce) (cs : Nat → Cel) (w : World) (h : Rp B w b mb n 8 M cs) :
    Calls Try.prog 11 #[.pointer (some ⟨b, 0, none⟩)] w (RacesPost M w) := by
  obtain ⟨i0, hi, hz0, hz1, hz2⟩ := info_parts rceinfo
  have HR := Lib.hid h
  clear h
  go_enter Try.func11, Try.ntmps11
  go_wp2_with fail
  go_loopw [7, 3] (fun i z wr => ∃ k : Nat, k ≤ 8 ∧ i = .int .i64 k ∧ wr.ownsRow w.heap.size 38 5 z (upto M k).length (rcCells (upto M k)) ∧ Below w.heap.size w wr) (fun i _ _ => 8 - (intOf i).toNat)
  case atStart => exact ⟨0, by omega, rfl, World.ownsRow_nil _ _ _ _, Below.refl _ _⟩
  case round =>
    obtain ⟨k, hk, rfl, hrow, hb⟩ := hrel
    obtain ⟨ao, cap, rfl⟩ := rown_slice hrow
    have HB := Lib.hid hb
    have ROW := Lib.hid hrow
    have LE := Lib.hid (upto_len M k)
    obtain ⟨m, hm⟩ : ∃ m, (upto M k).length = m := ⟨_, rfl⟩
    rw [hm] at ROW LE
    have HM := Lib.hid hm
    rw [hm]
    clear hb hrow hm
    by_cases hlt : k < 8
    · have hlt' : (k : Int) < 8 := by omega
      have CALL := Lib.hid (rfirst_any B b mb n M cs k wr (HR.out.below HB.out) (kI_wf (by omega) hlt'))
      cases hM : M k with
      | none =>
        have U := Lib.hid (upto_none hM)
        rw [hM] at CALL
        unfold rcV at CALL
        simp only [Option.getD_none, Option.isSome_none] at CALL
        unfold rce0 at CALL
        dsimp only at CALL
        clear hM
        go_wp2_with fail
        refine CALL.out.mono ?_
        rintro r w2 ⟨rfl, hb2⟩
        have B2 := Lib.hid (below_trans HB.out hb2 HB.out.size)
        have R2 := Lib.hid (ROW.out.kept (below_grown_none hb2) (by cases (Value.slice ao m cap).ownBlock <;> simp))
        clear hb2
        go_wp2_with fail
        go_roundw
        case rel => exact ⟨k + 1, by omega, by go_num, by rw [U.out, HM.out]; exact R2.out.alloc _, B2.out.alloc B2.out.size _⟩
        case measure => simp [intOf] <;> omega
      | some r0 =>
        have U := Lib.hid (upto_some hM)
        rw [hM] at CALL
        obtain ⟨g0, g1, g2, g3, g4⟩ := r0
        unfold rcV at CALL
        simp only [Option.getD_some, Option.isSome_some] at CALL
        clear hM
        go_wp2_with fail
        refine CALL.out.mono ?_
        rintro r w2 ⟨rfl, hb2⟩
        have B2 := Lib.hid (below_trans HB.out hb2 HB.out.size)
        have R2 := Lib.hid (ROW.out.kept (below_grown_none hb2) (by cases (Value.slice ao m cap).ownBlock <;> simp))
        clear hb2
        go_wp2_with (at_builtin; refine wpList_append_own _ rfl _ _ 41 rfl w.heap.size 38 i0 _ 5 40 Try.underlying41 hi hz0 hz1 hz2 rfl (by decide) _ _ _ rfl (show World.ownsRow _ _ _ _ _ _ _ from (R2.out.alloc _).alloc _) ⟨w2.heap.size + 1, 0, none⟩ 1 1 (rcC ⟨g0, g1, g2, g3, g4⟩).toList rfl rfl ?c1 ?c2 ?c3 ?c4 ?c5 ?_)
        case c1 =>
          intro j u hj
          have := rrange_lit (w2.alloc (.cells (rcC ⟨g0, g1, g2, g3, g4⟩) 38)) (rcC ⟨g0, g1, g2, g3, g4⟩).toList 38 j u hj
          rw [World.size_alloc] at this
          exact this
        case c2 => exact rcC_one _
        case c3 => have := LE.out; unfold maxLen; omega
        case c4 => have := LE.out; omega
        case c5 => have := B2.out.size; simp; omega
        intro v' w7 hown7 hgrow7 _
        have B7 : Below w.heap.size w w7 := by
          have b1 := (B2.out.alloc B2.out.size (.cells (rcC ⟨g0, g1, g2, g3, g4⟩) 38))
          have b2 := b1.alloc b1.size (.cells (rcC ⟨g0, g1, g2, g3, g4⟩) 38)
          exact b2.grown hgrow7 b2.size (fun k hk => (R2.out.lt k hk).1)
        have S7 := Lib.hid B7
        have O7 := Lib.hid hown7
        clear hown7 hgrow7 B7
        go_wp2_with fail
        go_roundw
        case rel => exact ⟨k + 1, by omega, by go_num, by rw [U.out, rcCells_snoc, List.length_append, HM.out]; exact O7.out, S7.out⟩
        case measure => simp [intOf] <;> omega
    · have hge : (8 : Int) ≤ k := by omega
      have hk8 : k = 8 := by omega
      have HK := Lib.hid hk8
      clear hk8
      go_wp2_with fail
      go_ret
      refine ⟨_, rfl, ?_, HB.out⟩
      have e := HK.out
      subst e
      have := ROW.out
      rw [← HM.out] at this
      rw [← HM.out]
      exact rces_of_own this
end Go.Proofs.Ytkcnbkdpjlpppaa

