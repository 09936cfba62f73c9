
/-
  Package entry: Check.
-/
import Derived.Test.YtmmkdbcgkafolaaDoorEntB
import Derived.Test.YtmmkdbcgkafolaaDoorEntP
namespace Go.Proofs.YtmmkdbcgkafolaaDoor
open Go.RowKit
set_option linter.unusedVariables false
set_option linter.unusedSimpArgs false
set_option maxRecDepth 100000
attribute [local go_sem ↓] Go.wp_at_zero Go.wp_at_succ
attribute [local go_sem ↓] run_idx5_0 run_idx5_1 run_idx5_2 run_idx5_3 run_idx5_4

/-! ### Check -/
@[local go_sem ↓] theorem run_at4_0 (w : World) (b : Nat) : (Instr.indexAt 60 (.pointer (some ⟨b, 0, none⟩)) (.int .i64 0)).run Tryd.prog w = .ok (.pointer (some ⟨b, 0, none⟩)) w := by kernel_rfl
@[local go_sem ↓] theorem run_at4_1 (w : World) (b : Nat) : (Instr.indexAt 60 (.pointer (some ⟨b, 0, none⟩)) (.int .i64 1)).run Tryd.prog w = .ok (.pointer (some ⟨b, 2, none⟩)) w := by kernel_rfl
@[local go_sem ↓] theorem run_at4_2 (w : World) (b : Nat) : (Instr.indexAt 60 (.pointer (some ⟨b, 0, none⟩)) (.int .i64 2)).run Tryd.prog w = .ok (.pointer (some ⟨b, 4, none⟩)) w := by kernel_rfl
@[local go_sem ↓] theorem run_at4_3 (w : World) (b : Nat) : (Instr.indexAt 60 (.pointer (some ⟨b, 0, none⟩)) (.int .i64 3)).run Tryd.prog w = .ok (.pointer (some ⟨b, 6, none⟩)) w := by kernel_rfl
theorem lt_of_heap {w : World} {b : Nat} {o : Obj} (h : w.heap[b]? = some o) : b < w.heap.size := by
  rcases Nat.lt_or_ge b w.heap.size with h1 | h1
  · exact h1
  · rw [Array.getElem?_eq_none h1] at h; cases h
/-- Two blocks: the event, its kind's shape. -/
structure ChkAt (ev sh : Array Value) (eb sb : Nat) (w0 w : World) : Prop where
  ev : w.heap[eb]? = some (Obj.cells ev 23 (0, 0))
  sh : w.heap[sb]? = some (Obj.cells sh 62 (0, 0))
  gl : Glob w
  bel : Below w0.heap.size w0 w
theorem ChkAt.below {ev sh : Array Value} {eb sb : Nat} {w0 w w' : World} (h : ChkAt ev sh eb sb w0 w) (hB : Below w.heap.size w w') : ChkAt ev sh eb sb w0 w' :=
  ⟨(hB.block _ (lt_of_heap h.ev)).trans h.ev, (hB.block _ (lt_of_heap h.sh)).trans h.sh, h.gl.below hB, h.bel.trans (hB.mono h.bel.size)⟩

theorem check_bad (e : Ev) (w : World) (h : e.kind < 1 ∨ 13 < e.kind) : Calls Tryd.prog 11 #[evV e] w fun r w' => r = .returned (.int .i64 (chk e)) ∧ Below w.heap.size w w' := by
  have E := Lib.hid (show chk e = 1 from if_pos h)
  obtain ⟨k, g, ch, cs, va, ma, sd, ok⟩ := e
  unfold evV
  dsimp only at h ⊢
  rw [E.out]
  rcases h with h | h
  · go_enter Tryd.func11, Tryd.ntmps11
    go_wp2_with fail
    go_ret
    exact ⟨rfl, below1 _ _⟩
  · go_enter Tryd.func11, Tryd.ntmps11
    go_wp2_with fail
    all_goals (go_ret; exact ⟨rfl, below1 _ _⟩)

theorem eight_cells {w : World} {b : Nat} {x0 x1 x2 x3 x4 x5 x6 x7 : Value} {t : TypeId} (h : w.heap[b]? = some (Obj.cells #[x0, x1, x2, x3, x4, x5, x6, x7] t (0, 0))) :
    w.cell? ⟨b, 0, none⟩ = some x0 ∧ w.cell? ⟨b, 1, none⟩ = some x1 ∧ w.cell? ⟨b, 2, none⟩ = some x2 ∧ w.cell? ⟨b, 3, none⟩ = some x3 ∧ w.cell? ⟨b, 4, none⟩ = some x4 ∧ w.cell? ⟨b, 5, none⟩ = some x5 ∧ w.cell? ⟨b, 6, none⟩ = some x6 ∧ w.cell? ⟨b, 7, none⟩ = some x7 := by
  refine ⟨?_, ?_, ?_, ?_, ?_, ?_, ?_, ?_⟩ <;> (simp only [World.cell?, h]; rfl)
theorem sh_marks {w : World} {b : Nat} {x0 x1 x2 x3 x4 x5 x6 x7 x8 x9 : Value} {t : TypeId} (h : w.heap[b]? = some (Obj.cells #[x0, x1, x2, x3, x4, x5, x6, x7, x8, x9] t (0, 0))) :
    w.cell? ⟨b, 8, none⟩ = some x8 ∧ w.cell? ⟨b, 9, none⟩ = some x9 := by
  refine ⟨?_, ?_⟩ <;> (simp only [World.cell?, h]; rfl)
theorem sh_spans {w : World} {b : Nat} {x0 x1 x2 x3 x4 x5 x6 x7 x8 x9 : Value} {t : TypeId} (h : w.heap[b]? = some (Obj.cells #[x0, x1, x2, x3, x4, x5, x6, x7, x8, x9] t (0, 0))) :
    w.cell? ⟨b, 0, none⟩ = some x0 ∧ w.cell? ⟨b, 1, none⟩ = some x1 ∧ w.cell? ⟨b, 2, none⟩ = some x2 ∧ w.cell? ⟨b, 3, none⟩ = some x3 ∧ w.cell? ⟨b, 4, none⟩ = some x4 ∧ w.cell? ⟨b, 5, none⟩ = some x5 ∧ w.cell? ⟨b, 6, none⟩ = some x6 ∧ w.cell? ⟨b, 7, none⟩ = some x7 := by
  refine ⟨?_, ?_, ?_, ?_, ?_, ?_, ?_, ?_⟩ <;> (simp only [World.cell?, h]; rfl)
def preL (p q1 q2 q3 q4 : Bool) : Nat → Bool
  | 0 => p
  | 1 => p
  | 2 => p && q1
  | 3 => p && q1 && q2
  | 4 => p && q1 && q2 && q3
  | _ => p && q1 && q2 && q3 && q4
set_option maxHeartbeats 8000000 in
theorem check_good (e : Ev) (w : World) (h0 : 1 ≤ e.kind) (h1 : e.kind ≤ 13) (hg : Glob w) : Calls Tryd.prog 11 #[evV e] w fun r w' => r = .returned (.int .i64 (chk e)) ∧ Below w.heap.size w w' := by
  have E := Lib.hid (show chk e = if okB e then 0 else 4 from if_neg (by omega))
  rw [E.out]
  have G := Lib.hid hg
  obtain ⟨S, hS⟩ : ∃ S, shp e.kind = S := ⟨_, rfl⟩
  have HS := Lib.hid hS
  obtain ⟨⟨a1, a2⟩, ⟨b1, b2⟩, ⟨c1, c2⟩, ⟨d1, d2⟩, s, o⟩ := S
  obtain ⟨b, hb⟩ : ∃ b, okB e = b := ⟨_, rfl⟩
  rw [hb]
  have HB := Lib.hid hb
  obtain ⟨x, hx⟩ : ∃ x, oddB e = x := ⟨_, rfl⟩
  have HX := Lib.hid hx
  obtain ⟨k, g, ch, cs, va, ma, sd, ok⟩ := e
  have ODD := odd_any ⟨k, g, ch, cs, va, ma, sd, ok⟩
  rw [hx] at ODD
  have OD := Lib.hid ODD
  have OFA := of_any k
  dsimp only at hS h0 h1
  rw [hS] at OFA
  have OF := Lib.hid OFA
  unfold evV at OD ⊢
  unfold shpV at OF
  dsimp only at OD OF ⊢
  clear hg hS hb hx ODD OFA
  go_enter Tryd.func11, Tryd.ntmps11
  go_wp2_with fail
  refine (OF.out _ (G.out.below (below1 _ _))).mono ?_
  rintro r w1 ⟨rfl, hB1⟩
  obtain ⟨W, hW⟩ : ∃ W, w1.alloc (.cells #[.int .i64 a1, .int .i64 a2, .int .i64 b1, .int .i64 b2, .int .i64 c1, .int .i64 c2, .int .i64 d1, .int .i64 d2, .bool s, .bool o] 62) = W := ⟨_, rfl⟩
  have C : ChkAt #[.int .i64 k, .int .i64 g, .int .i64 ch, .int .i64 cs, .int .i64 va, .int .i64 ma, .bool sd, .bool ok] #[.int .i64 a1, .int .i64 a2, .int .i64 b1, .int .i64 b2, .int .i64 c1, .int .i64 c2, .int .i64 d1, .int .i64 d2, .bool s, .bool o] w.heap.size w1.heap.size w W := by
    have hB := (below1 w (.cells #[.int .i64 k, .int .i64 g, .int .i64 ch, .int .i64 cs, .int .i64 va, .int .i64 ma, .bool sd, .bool ok] 23))
    have h1 := (hB1.block w.heap.size (by simp)).trans (heap_alloc_new w (.cells #[.int .i64 k, .int .i64 g, .int .i64 ch, .int .i64 cs, .int .i64 va, .int .i64 ma, .bool sd, .bool ok] 23))
    subst hW
    have hB2 := below1 w1 (.cells #[.int .i64 a1, .int .i64 a2, .int .i64 b1, .int .i64 b2, .int .i64 c1, .int .i64 c2, .int .i64 d1, .int .i64 d2, .bool s, .bool o] 62)
    exact ⟨(hB2.block _ (lt_of_heap h1)).trans h1, heap_alloc_new _ _, ((G.out.below hB).below hB1).below hB2, (hB.trans (hB1.mono hB.size)).trans (hB2.mono (Nat.le_trans hB.size hB1.size))⟩
  have CC := Lib.hid C
  obtain ⟨n0, n1, i0, i1, m0, m1⟩ := C.gl
  obtain ⟨z0, z1, z2, z3, z4, z5, z6, z7⟩ := eight_cells C.ev
  obtain ⟨y8, y9⟩ := sh_marks C.sh
  have s3 : w.heap.size < W.heap.size := lt_of_heap C.ev
  have s4 : w1.heap.size < W.heap.size := lt_of_heap C.sh
  have hsz := C.gl.size
  have s0 : 0 < W.heap.size := by omega
  have s1 : 1 < W.heap.size := by omega
  clear C
  obtain ⟨x1, hx1⟩ : ∃ x1, inB (if k = 13 then (-1, -1) else (0, 511)) g = x1 := ⟨_, rfl⟩
  have OKB : b = preL (x1 && (s || !sd) && (o || !ok) && !x) (inB (a1, a2) ch) (inB (b1, b2) cs) (inB (c1, c2) va) (inB (d1, d2) ma) 5 := by
    rw [← HB.out, ← hx1]
    have e1 := HS.out
    have e2 := HX.out
    show preB _ 5 = _
    simp only [preB, pre0, spanAt, fieldAt, e1, e2, preL]
  have OB2 := Lib.hid OKB
  have X1 := Lib.hid hx1
  clear OKB hx1
  have hbox : ∀ p1 p2 : Int, ChkAt #[.int .i64 k, .int .i64 g, .int .i64 ch, .int .i64 cs, .int .i64 va, .int .i64 ma, .bool sd, .bool ok] #[.int .i64 a1, .int .i64 a2, .int .i64 b1, .int .i64 b2, .int .i64 c1, .int .i64 c2, .int .i64 d1, .int .i64 d2, .bool s, .bool o] w.heap.size w1.heap.size w (W.alloc (.cells #[.int .i64 p1, .int .i64 p2] 59)) := fun p1 p2 => CC.out.below (below1 _ _)
  have BX := Lib.hid hbox
  clear hbox
  go_upto_if 22 with (fail)
  go_cut [4] (fun s4 wx => ∃ p1 p2 : Int, s4 = .pointer (some ⟨W.heap.size, 0, none⟩) ∧ ChkAt #[.int .i64 k, .int .i64 g, .int .i64 ch, .int .i64 cs, .int .i64 va, .int .i64 ma, .bool sd, .bool ok] #[.int .i64 a1, .int .i64 a2, .int .i64 b1, .int .i64 b2, .int .i64 c1, .int .i64 c2, .int .i64 d1, .int .i64 d2, .bool s, .bool o] w.heap.size w1.heap.size w wx ∧ wx.cell? ⟨W.heap.size, 0, none⟩ = some (.int .i64 p1) ∧ wx.cell? ⟨W.heap.size, 1, none⟩ = some (.int .i64 p2) ∧ Hid (decide (p1 ≤ g ∧ g ≤ p2) = x1))
  case first =>
    by_cases h13 : k = 13
    · subst h13
      go_wp2_with fail
      go_meet
      exact ⟨-1, -1, rfl, BX.out (-1) (-1), by simp, by simp, X1⟩
    · have h13' : (k == 13) = false := by simpa using h13
      have X2 := Lib.hid (show decide ((0 : Int) ≤ g ∧ g ≤ 511) = x1 by have := X1.out; rw [if_neg h13] at this; exact this)
      clear h13
      go_wp2_with fail
      go_meet
      exact ⟨0, 511, rfl, BX.out 0 511, by simp, by simp, X2⟩
  case rest =>
    obtain ⟨p1, p2, rfl, CV, v0, v1, X3⟩ := hcut
    rename_i V _
    clear z0 z1 z2 z3 z4 z5 z6 z7 y8 y9 n0 n1 i0 i1 m0 m1 s0 s1 s3 s4 hsz BX X1
    have CV' := Lib.hid CV
    obtain ⟨z0, z1, z2, z3, z4, z5, z6, z7⟩ := eight_cells CV.ev
    obtain ⟨y8, y9⟩ := sh_marks CV.sh
    clear CV
    go_upto_region 7 with (fail)
    go_cut [5] (fun s5 wx => s5 = .bool (x1 && (s || !sd) && (o || !ok) && !x) ∧ ChkAt #[.int .i64 k, .int .i64 g, .int .i64 ch, .int .i64 cs, .int .i64 va, .int .i64 ma, .bool sd, .bool ok] #[.int .i64 a1, .int .i64 a2, .int .i64 b1, .int .i64 b2, .int .i64 c1, .int .i64 c2, .int .i64 d1, .int .i64 d2, .bool s, .bool o] w.heap.size w1.heap.size w wx)
    case first =>
      go_wp2_with fail
      (with_reducible refine (in_any p1 p2 g _ x1 X3.out).mono ?_); rintro r w3 ⟨rfl, hB3⟩
      have C3 := Lib.hid (CV'.out.below hB3)
      obtain ⟨r0, r1, r2, r3, r4, r5, r6, r7⟩ := eight_cells C3.out.ev
      obtain ⟨q8, q9⟩ := sh_marks C3.out.sh
      clear hB3 z0 z1 z2 z3 z4 z5 z6 z7 y8 y9 v0 v1
      cases x1
      · go_wp2_with fail
        go_meet
        exact ⟨by simp, C3.out⟩
      · cases s <;> cases sd <;> cases o <;> cases ok
        all_goals first
          | (go_wp2_with fail
             go_meet
             exact ⟨by simp, C3.out⟩)
          | (go_wp2_with fail
             (with_reducible refine (OD.out _).mono ?_); rintro r w4 ⟨rfl, hB4⟩
             have C4 := Lib.hid (C3.out.below hB4)
             clear hB4
             go_wp2_with fail
             go_meet
             exact ⟨by simp, C4.out⟩)
    case rest =>
      obtain ⟨rfl, hC⟩ := hcut
      have CX := Lib.hid hC
      obtain ⟨p, hp⟩ : ∃ p, (x1 && (s || !sd) && (o || !ok) && !x) = p := ⟨_, rfl⟩
      rw [hp] at OB2 ⊢
      clear hC hp z0 z1 z2 z3 z4 z5 z6 z7 y8 y9 v0 v1
      go_wp2_with fail
      refine (fields_any w.heap.size _).mono ?_
      rintro r w5 ⟨rfl, hB5⟩
      have C5 := Lib.hid (CX.out.below hB5)
      clear hB5
      obtain ⟨q1, hq1⟩ : ∃ q, inB (a1, a2) ch = q := ⟨_, rfl⟩
      obtain ⟨q2, hq2⟩ : ∃ q, inB (b1, b2) cs = q := ⟨_, rfl⟩
      obtain ⟨q3, hq3⟩ : ∃ q, inB (c1, c2) va = q := ⟨_, rfl⟩
      obtain ⟨q4, hq4⟩ : ∃ q, inB (d1, d2) ma = q := ⟨_, rfl⟩
      rw [hq1, hq2, hq3, hq4] at OB2
      have Q1 := Lib.hid (show decide (a1 ≤ ch ∧ ch ≤ a2) = q1 from hq1)
      have Q2 := Lib.hid (show decide (b1 ≤ cs ∧ cs ≤ b2) = q2 from hq2)
      have Q3 := Lib.hid (show decide (c1 ≤ va ∧ va ≤ c2) = q3 from hq3)
      have Q4 := Lib.hid (show decide (d1 ≤ ma ∧ ma ≤ d2) = q4 from hq4)
      clear hq1 hq2 hq3 hq4
      go_wp2_with fail
      go_loopw [5, 52] (fun s5 i wr => ∃ j : Nat, j ≤ 5 ∧ i = .int .i64 j ∧ s5 = .bool (preL p q1 q2 q3 q4 j) ∧ ChkAt #[.int .i64 k, .int .i64 g, .int .i64 ch, .int .i64 cs, .int .i64 va, .int .i64 ma, .bool sd, .bool ok] #[.int .i64 a1, .int .i64 a2, .int .i64 b1, .int .i64 b2, .int .i64 c1, .int .i64 c2, .int .i64 d1, .int .i64 d2, .bool s, .bool o] w.heap.size w1.heap.size w wr) (fun _ i _ => 5 - (intOf i).toNat)
      case atStart => exact ⟨0, by omega, rfl, rfl, C5.out⟩
      case round =>
        obtain ⟨j, hj, rfl, rfl, hC⟩ := hrel
        have CR := Lib.hid hC
        obtain ⟨z0, z1, z2, z3, z4, z5, z6, z7⟩ := eight_cells hC.ev
        obtain ⟨y0, y1, y2, y3, y4, y5, y6, y7⟩ := sh_spans hC.sh
        clear hC
        have hj' : j = 0 ∨ j = 1 ∨ j = 2 ∨ j = 3 ∨ j = 4 ∨ j = 5 := by omega
        rcases hj' with rfl | rfl | rfl | rfl | rfl | rfl
        · rw [show ((0 : Nat) : Int) = 0 from rfl]
          cases hP : preL p q1 q2 q3 q4 0
          all_goals
            have P1 := Lib.hid (show preL p q1 q2 q3 q4 1 = _ from hP)
            clear hP
            go_wp2_with fail
            go_quiet (fail)
            all_goals go_wp2_with fail
            all_goals
              go_roundw
              case rel => exact ⟨1, by omega, by go_num, by rw [P1.out], CR.out.below (below_drewN (Below.refl _ _) _)⟩
              case measure => simp [intOf]
        · rw [show ((1 : Nat) : Int) = 1 from rfl]
          cases hP : preL p q1 q2 q3 q4 1
          · have P1 := Lib.hid (show preL p q1 q2 q3 q4 2 = false from by show (preL p q1 q2 q3 q4 1 && q1) = false; rw [hP]; rfl)
            clear hP
            go_wp2_with fail
            go_quiet (fail)
            all_goals go_wp2_with fail
            all_goals
              go_roundw
              case rel => exact ⟨2, by omega, by go_num, by rw [P1.out], CR.out.below (below_drewN (Below.refl _ _) _)⟩
              case measure => simp [intOf]
          · have P1 := Lib.hid (show preL p q1 q2 q3 q4 2 = q1 from by show (preL p q1 q2 q3 q4 1 && q1) = q1; rw [hP]; rfl)
            clear hP
            go_wp2_with fail
            have iw : IntKind.i64.wrap (0 : Int) = 0 := rfl
            first | (go_region_held3 (fun w' => w'.cell? ⟨w1.heap.size, 0, none⟩ = some (.int .i64 a1) ∧ w'.cell? ⟨w1.heap.size, 1, none⟩ = some (.int .i64 a2) ∧ w'.cell? ⟨w.heap.size, 2, none⟩ = some (.int .i64 ch)) (go_keep) (first | (go_at_call 26; (with_reducible refine (in_any a1 a2 ch _ q1 Q1.out).mono ?_); rintro r w6 ⟨rfl, hB6⟩; have C6 := Lib.hid (CR.out.below (((Below.refl _ _).drew).trans (hB6.mono (Nat.le_refl _)))); obtain ⟨x0, x1, x2, x3, x4, x5, x6, x7⟩ := eight_cells C6.out.ev; obtain ⟨u0, u1, u2, u3, u4, u5, u6, u7⟩ := sh_spans C6.out.sh; clear hB6))) | fail
            all_goals go_wp2_with fail
            all_goals
              go_roundw
              case rel => exact ⟨2, by omega, by go_num, by rw [P1.out], C6.out⟩
              case measure => simp [intOf]
        · rw [show ((2 : Nat) : Int) = 2 from rfl]
          cases hP : preL p q1 q2 q3 q4 2
          · have P1 := Lib.hid (show preL p q1 q2 q3 q4 3 = false from by show (preL p q1 q2 q3 q4 2 && q2) = false; rw [hP]; rfl)
            clear hP
            go_wp2_with fail
            go_quiet (fail)
            all_goals go_wp2_with fail
            all_goals
              go_roundw
              case rel => exact ⟨3, by omega, by go_num, by rw [P1.out], CR.out.below (below_drewN (Below.refl _ _) _)⟩
              case measure => simp [intOf]
          · have P1 := Lib.hid (show preL p q1 q2 q3 q4 3 = q2 from by show (preL p q1 q2 q3 q4 2 && q2) = q2; rw [hP]; rfl)
            clear hP
            go_wp2_with fail
            have iw : IntKind.i64.wrap (1 : Int) = 1 := rfl
            first | (go_region_held3 (fun w' => w'.cell? ⟨w1.heap.size, 2, none⟩ = some (.int .i64 b1) ∧ w'.cell? ⟨w1.heap.size, 3, none⟩ = some (.int .i64 b2) ∧ w'.cell? ⟨w.heap.size, 3, none⟩ = some (.int .i64 cs)) (go_keep) (first | (go_at_call 26; (with_reducible refine (in_any b1 b2 cs _ q2 Q2.out).mono ?_); rintro r w6 ⟨rfl, hB6⟩; have C6 := Lib.hid (CR.out.below (((Below.refl _ _).drew).trans (hB6.mono (Nat.le_refl _)))); obtain ⟨x0, x1, x2, x3, x4, x5, x6, x7⟩ := eight_cells C6.out.ev; obtain ⟨u0, u1, u2, u3, u4, u5, u6, u7⟩ := sh_spans C6.out.sh; clear hB6))) | fail
            all_goals go_wp2_with fail
            all_goals
              go_roundw
              case rel => exact ⟨3, by omega, by go_num, by rw [P1.out], C6.out⟩
              case measure => simp [intOf]
        · rw [show ((3 : Nat) : Int) = 3 from rfl]
          cases hP : preL p q1 q2 q3 q4 3
          · have P1 := Lib.hid (show preL p q1 q2 q3 q4 4 = false from by show (preL p q1 q2 q3 q4 3 && q3) = false; rw [hP]; rfl)
            clear hP
            go_wp2_with fail
            go_quiet (fail)
            all_goals go_wp2_with fail
            all_goals
              go_roundw
              case rel => exact ⟨4, by omega, by go_num, by rw [P1.out], CR.out.below (below_drewN (Below.refl _ _) _)⟩
              case measure => simp [intOf]
          · have P1 := Lib.hid (show preL p q1 q2 q3 q4 4 = q3 from by show (preL p q1 q2 q3 q4 3 && q3) = q3; rw [hP]; rfl)
            clear hP
            go_wp2_with fail
            have iw : IntKind.i64.wrap (2 : Int) = 2 := rfl
            first | (go_region_held3 (fun w' => w'.cell? ⟨w1.heap.size, 4, none⟩ = some (.int .i64 c1) ∧ w'.cell? ⟨w1.heap.size, 5, none⟩ = some (.int .i64 c2) ∧ w'.cell? ⟨w.heap.size, 4, none⟩ = some (.int .i64 va)) (go_keep) (first | (go_at_call 26; (with_reducible refine (in_any c1 c2 va _ q3 Q3.out).mono ?_); rintro r w6 ⟨rfl, hB6⟩; have C6 := Lib.hid (CR.out.below (((Below.refl _ _).drew).trans (hB6.mono (Nat.le_refl _)))); obtain ⟨x0, x1, x2, x3, x4, x5, x6, x7⟩ := eight_cells C6.out.ev; obtain ⟨u0, u1, u2, u3, u4, u5, u6, u7⟩ := sh_spans C6.out.sh; clear hB6))) | fail
            all_goals go_wp2_with fail
            all_goals
              go_roundw
              case rel => exact ⟨4, by omega, by go_num, by rw [P1.out], C6.out⟩
              case measure => simp [intOf]
        · rw [show ((4 : Nat) : Int) = 4 from rfl]
          cases hP : preL p q1 q2 q3 q4 4
          · have P1 := Lib.hid (show preL p q1 q2 q3 q4 5 = false from by show (preL p q1 q2 q3 q4 4 && q4) = false; rw [hP]; rfl)
            clear hP
            go_wp2_with fail
            go_quiet (fail)
            all_goals go_wp2_with fail
            all_goals
              go_roundw
              case rel => exact ⟨5, by omega, by go_num, by rw [P1.out], CR.out.below (below_drewN (Below.refl _ _) _)⟩
              case measure => simp [intOf]
          · have P1 := Lib.hid (show preL p q1 q2 q3 q4 5 = q4 from by show (preL p q1 q2 q3 q4 4 && q4) = q4; rw [hP]; rfl)
            clear hP
            go_wp2_with fail
            have iw : IntKind.i64.wrap (3 : Int) = 3 := rfl
            first | (go_region_held3 (fun w' => w'.cell? ⟨w1.heap.size, 6, none⟩ = some (.int .i64 d1) ∧ w'.cell? ⟨w1.heap.size, 7, none⟩ = some (.int .i64 d2) ∧ w'.cell? ⟨w.heap.size, 5, none⟩ = some (.int .i64 ma)) (go_keep) (first | (go_at_call 26; (with_reducible refine (in_any d1 d2 ma _ q4 Q4.out).mono ?_); rintro r w6 ⟨rfl, hB6⟩; have C6 := Lib.hid (CR.out.below (((Below.refl _ _).drew).trans (hB6.mono (Nat.le_refl _)))); obtain ⟨x0, x1, x2, x3, x4, x5, x6, x7⟩ := eight_cells C6.out.ev; obtain ⟨u0, u1, u2, u3, u4, u5, u6, u7⟩ := sh_spans C6.out.sh; clear hB6))) | fail
            all_goals go_wp2_with fail
            all_goals
              go_roundw
              case rel => exact ⟨5, by omega, by go_num, by rw [P1.out], C6.out⟩
              case measure => simp [intOf]
        · have PB := Lib.hid (show preL p q1 q2 q3 q4 5 = b from OB2.out.symm)
          rw [show ((5 : Nat) : Int) = 5 from rfl, PB.out]
          cases b
          all_goals
            go_wp2_with fail
            go_ret
            exact ⟨rfl, CR.out.bel⟩

theorem check_any (e : Ev) (w : World) (hg : Glob w) : Calls Tryd.prog 11 #[evV e] w fun r w' => r = .returned (.int .i64 (chk e)) ∧ Below w.heap.size w w' := by
  by_cases h : e.kind < 1 ∨ 13 < e.kind
  · exact check_bad e w h
  · exact check_good e w (by omega) (by omega) hg

end Go.Proofs.YtmmkdbcgkafolaaDoor

