
/-
  Layer 4: Releases and Names of both; staitheplain.Op.
-/
import Derived.Test.YtpefjcmaggimhaaDeeG
namespace Go.Proofs.Ytpefjcmaggimhaa
open Go.RowKit
set_option linter.unusedVariables false
set_option linter.unusedSimpArgs false
set_option maxRecDepth 100000

def relB (k : Int) : Bool := decide (k = 1 ∨ k = 3 ∨ k = 4 ∨ k = 5 ∨ k = 6)
/-! ### Equal operations -/
def csEq (c d : Cs) : Bool := c.sd == d.sd && (c.ch == d.ch && c.va == d.va)
@[local go_sem ↓] theorem run_eqCs (sd sd' : Bool) (ch va ch' va' : Int) (w : World) :
    (Op.equalIn 10000 50 (.agg #[.bool sd, .int .i64 ch, .int .i64 va]) (.agg #[.bool sd', .int .i64 ch', .int .i64 va'])).run Try.prog w = .ok (csEq ⟨sd, ch, va⟩ ⟨sd', ch', va'⟩) w := by
  unfold csEq
  dsimp only
  cases h0 : (sd == sd')
  · go_simp
  cases h1 : (ch == ch')
  · go_simp
  cases h2 : (va == va')
  · go_simp
  · go_simp
theorem csEq_iff (c d : Cs) : csEq c d = decide (c = d) := by
  obtain ⟨sd, ch, va⟩ := c
  obtain ⟨sd', ch', va'⟩ := d
  by_cases h : (Cs.mk sd ch va) = ⟨sd', ch', va'⟩
  · cases h; simp [csEq]
  · rw [decide_eq_false h, Bool.eq_false_iff]
    intro e
    simp [csEq] at e
    exact h (by simp [e])
theorem cs_ext {xs ys : List Cs} (hl : xs.length = ys.length) (h : ∀ j, j < xs.length → xs.getD j default = ys.getD j default) : xs = ys := by
  apply List.ext_getElem hl
  intro i h1 h2
  have := h i h1
  simpa [List.getD, h1, h2] using this
set_option maxHeartbeats 4000000 in
theorem op_any (x y : Opn) (v v' : Value) (w : World) (h : CssOf w v x.cs) (h' : CssOf w v' y.cs) (hn : x.cs.length ≤ 1000000) :
    Calls Try.prog 43 #[opV v x, opV v' y] w fun r w' => r = .returned (.bool (decide (x = y))) ∧ Below w.heap.size w w' := by
  obtain ⟨k, a, b, cs, df⟩ := x
  obtain ⟨k', a', b', cs', df'⟩ := y
  obtain ⟨ao, ca, rfl⟩ := h.shape
  obtain ⟨bo, cb, rfl⟩ := h'.shape
  dsimp only at h h' hn
  have H := Lib.hid h
  have H' := Lib.hid h'
  unfold opV
  dsimp only
  obtain ⟨n, hnn⟩ : ∃ n, cs.length = n := ⟨_, rfl⟩
  obtain ⟨n', hnn'⟩ : ∃ n, cs'.length = n := ⟨_, rfl⟩
  rw [hnn] at H hn ⊢
  rw [hnn'] at H' ⊢
  have HN := Lib.hid hnn
  have HN' := Lib.hid hnn'
  have B2 : ∀ A B : Obj, Below w.heap.size w ((w.alloc A).alloc B) := fun A B => ((Below.refl _ _).alloc (Nat.le_refl _) _).alloc (by simp) _
  have NE : ∀ {P : Prop} (b : Bool), b = true → True := fun _ _ => trivial
  clear h h' hnn hnn' NE
  by_cases e1 : k = k'
  case neg =>
    have d1 : (k != k') = true := by simpa using e1
    have E := Lib.hid (show decide (Opn.mk k a b cs df = ⟨k', a', b', cs', df'⟩) = false from decide_eq_false (fun e => e1 (by cases e; rfl)))
    clear e1
    go_enter Try.func43, Try.ntmps43
    go_wp2_with fail
    go_ret
    exact ⟨by rw [E.out]; rfl, B2 _ _⟩
  subst e1
  by_cases e2 : a = a'
  case neg =>
    have d1 : (a != a') = true := by simpa using e2
    have E := Lib.hid (show decide (Opn.mk k a b cs df = ⟨k, a', b', cs', df'⟩) = false from decide_eq_false (fun e => e2 (by cases e; rfl)))
    clear e2
    go_enter Try.func43, Try.ntmps43
    go_wp2_with fail
    go_ret
    exact ⟨by rw [E.out]; rfl, B2 _ _⟩
  subst e2
  by_cases e3 : b = b'
  case neg =>
    have d1 : (b != b') = true := by simpa using e3
    have E := Lib.hid (show decide (Opn.mk k a b cs df = ⟨k, a, b', cs', df'⟩) = false from decide_eq_false (fun e => e3 (by cases e; rfl)))
    clear e3
    go_enter Try.func43, Try.ntmps43
    go_wp2_with fail
    go_ret
    exact ⟨by rw [E.out]; rfl, B2 _ _⟩
  subst e3
  by_cases e4 : df = df'
  case neg =>
    have E := Lib.hid (show decide (Opn.mk k a b cs df = ⟨k, a, b, cs', df'⟩) = false from decide_eq_false (fun e => e4 (by cases e; rfl)))
    have d1 : (df == df') = false := by simpa using e4
    clear e4
    go_enter Try.func43, Try.ntmps43
    go_wp2_with fail
    go_ret
    exact ⟨by rw [E.out]; rfl, B2 _ _⟩
  subst e4
  by_cases e5 : n = n'
  case neg =>
    have d1 : ((n : Int) != n') = true := by simp; omega
    have d2 : (n != n') = true := by simp; omega
    have E := Lib.hid (show decide (Opn.mk k a b cs df = ⟨k, a, b, cs', df⟩) = false from decide_eq_false (fun e => e5 (by rw [← HN.out, ← HN'.out]; cases e; rfl)))
    clear e5
    go_enter Try.func43, Try.ntmps43
    go_wp2_with fail
    go_ret
    exact ⟨by rw [E.out]; rfl, B2 _ _⟩
  subst e5
  obtain ⟨W, hW⟩ : ∃ W, (w.alloc (.cells #[.int .i64 k, .int .i64 a, .int .i64 b, .slice ao n ca, .bool df] 48)).alloc (.cells #[.int .i64 k, .int .i64 a, .int .i64 b, .slice bo n cb, .bool df] 48) = W := ⟨_, rfl⟩
  have BW : Below w.heap.size w W := by rw [← hW]; exact B2 _ _
  have o1 : W.heap[w.heap.size]? = some (Obj.cells #[.int .i64 k, .int .i64 a, .int .i64 b, .slice ao n ca, .bool df] 48 (0, 0)) := by rw [← hW, heap_alloc_old _ _ (by simp)]; exact heap_alloc_new _ _
  have o2 : W.heap[w.heap.size + 1]? = some (Obj.cells #[.int .i64 k, .int .i64 a, .int .i64 b, .slice bo n cb, .bool df] 48 (0, 0)) := by
    rw [← hW]
    have h := heap_alloc_new (w.alloc (.cells #[.int .i64 k, .int .i64 a, .int .i64 b, .slice ao n ca, .bool df] 48)) (.cells #[.int .i64 k, .int .i64 a, .int .i64 b, .slice bo n cb, .bool df] 48)
    rw [World.size_alloc] at h
    exact h
  have O1 := Lib.hid o1
  have O2 := Lib.hid o2
  have HB0 := Lib.hid BW
  obtain ⟨z0, z1, z2, z3, z4⟩ := five_cells o1
  obtain ⟨y0, y1, y2, y3, y4⟩ := five_cells o2
  clear o1 o2 B2 BW
  go_enter Try.func43, Try.ntmps43
  go_wp2_with fail
  try rw [hW]
  go_loopw [44] (fun i wr => ∃ j : Nat, j ≤ n ∧ i = .int .i64 j ∧ (∀ u, u < j → cs.getD u default = cs'.getD u default) ∧ Below W.heap.size W wr) (fun i _ => n - (intOf i).toNat)
  case atStart => exact ⟨0, by omega, rfl, fun u hu => by omega, Below.refl _ _⟩
  case round =>
    obtain ⟨j, hj, rfl, hq, hb⟩ := hrel
    have Q := Lib.hid hq
    have HB := Lib.hid hb
    clear hq hb z0 z1 z2 z3 z4 y0 y1 y2 y3 y4 hW
    by_cases hlt : j < n
    · have hlt' : (j : Int) < (n : Int) := by omega
      obtain ⟨g, z, rfl, c⟩ := H.out.at j (by have := HN.out; omega)
      obtain ⟨g', z', rfl, c'⟩ := H'.out.at j (by have := HN'.out; omega)
      obtain ⟨c0, c1, c2⟩ := (c.below (Nat.le_refl _) HB0.out).below (Nat.le_refl _) HB.out
      obtain ⟨d0, d1, d2⟩ := (c'.below (Nat.le_refl _) HB0.out).below (Nat.le_refl _) HB.out
      obtain ⟨z0, z1, z2, z3, z4⟩ := five_cells ((HB.out.block _ (lt_of_heap O1.out)).trans O1.out)
      obtain ⟨y0, y1, y2, y3, y4⟩ := five_cells ((HB.out.block _ (lt_of_heap O2.out)).trans O2.out)
      obtain ⟨⟨sd, ch, va⟩, he⟩ : ∃ e, cs.getD j default = e := ⟨_, rfl⟩
      obtain ⟨⟨sd', ch', va'⟩, he'⟩ : ∃ e, cs'.getD j default = e := ⟨_, rfl⟩
      rw [he] at c0 c1 c2
      rw [he'] at d0 d1 d2
      dsimp only at c0 c1 c2 d0 d1 d2
      by_cases heq : (Cs.mk sd ch va) = ⟨sd', ch', va'⟩
      · have E := csEq_iff ⟨sd, ch, va⟩ ⟨sd', ch', va'⟩
        rw [decide_eq_true heq] at E
        have QQ := Lib.hid (show ∀ u, u < j + 1 → cs.getD u default = cs'.getD u default from fun u hu => by
          by_cases huj : u = j
          · subst huj; rw [he, he', heq]
          · exact Q.out u (by omega))
        clear heq he he' c c' Q
        go_wp2_with fail
        go_quiet (fail)
        go_wp2_with fail
        go_roundw
        case rel => exact ⟨j + 1, by omega, by go_num, QQ.out, below_drewN HB.out _⟩
        case measure => simp [intOf] <;> omega
      · have E := csEq_iff ⟨sd, ch, va⟩ ⟨sd', ch', va'⟩
        rw [decide_eq_false heq] at E
        have EE := Lib.hid (show decide (Opn.mk k a b cs df = ⟨k, a, b, cs', df⟩) = false from decide_eq_false (fun e => heq (by rw [← he, ← he']; cases e; rfl)))
        clear heq he he' c c' Q
        go_wp2_with fail
        go_quiet (fail)
        go_wp2_with fail
        go_ret
        exact ⟨by rw [EE.out]; rfl, below_drewN (HB0.out.trans (HB.out.mono HB0.out.size)) _⟩
    · have hge : (n : Int) ≤ j := by omega
      have EE := Lib.hid (show decide (Opn.mk k a b cs df = ⟨k, a, b, cs', df⟩) = true from decide_eq_true (by
        have := cs_ext (xs := cs) (ys := cs') (by rw [HN.out, HN'.out]) (fun u hu => Q.out u (by have := HN.out; omega))
        rw [this]))
      clear hlt
      go_wp2_with fail
      go_ret
      exact ⟨by rw [EE.out]; rfl, HB0.out.trans (HB.out.mono HB0.out.size)⟩
end Go.Proofs.Ytpefjcmaggimhaa

