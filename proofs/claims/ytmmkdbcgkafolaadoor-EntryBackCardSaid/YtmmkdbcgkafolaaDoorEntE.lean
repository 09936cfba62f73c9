
/-
  Package entry: Encode.
-/
import Derived.Test.YtmmkdbcgkafolaaDoorEntC
namespace Go.Proofs.YtmmkdbcgkafolaaDoor
open Go.RowKit
set_option linter.unusedVariables false
set_option linter.unusedSimpArgs false
set_option maxRecDepth 100000
attribute [local go_sem ↓] run_idx5_0 run_idx5_1 run_idx5_2 run_idx5_3 run_idx5_4
@[local go_sem] theorem or01 : bits .or .i64 0 1 = 1 := by decide
@[local go_sem] theorem or02 : bits .or .i64 0 2 = 2 := by decide
@[local go_sem] theorem or12 : bits .or .i64 1 2 = 3 := by decide

theorem chk_zero {e : Ev} (h : chk e = 0) : (1 ≤ e.kind ∧ e.kind ≤ 13) ∧ okB e = true := by
  unfold chk at h
  split at h
  · omega
  · split at h
    · rename_i h1 h2; exact ⟨by omega, h2⟩
    · omega
theorem in_bd {p : Int × Int} {n : Int} (h : inB p n = true) (h0 : -1 ≤ p.1) (h1 : p.2 ≤ 511) : -1 ≤ n ∧ n ≤ 511 := by
  have := of_decide_eq_true h
  omega
theorem shp_bd (k : Int) : (-1 ≤ (shp k).a.1 ∧ (shp k).a.2 ≤ 511) ∧ (-1 ≤ (shp k).b.1 ∧ (shp k).b.2 ≤ 511) ∧ (-1 ≤ (shp k).c.1 ∧ (shp k).c.2 ≤ 511) ∧ (-1 ≤ (shp k).d.1 ∧ (shp k).d.2 ≤ 511) := by
  unfold shp
  repeat (split; · decide)
  decide
theorem chk_bd {e : Ev} (h : chk e = 0) : (-1 ≤ e.g ∧ e.g ≤ 511) ∧ (-1 ≤ e.ch ∧ e.ch ≤ 511) ∧ (-1 ≤ e.cs ∧ e.cs ≤ 511) ∧ (-1 ≤ e.va ∧ e.va ≤ 511) ∧ (-1 ≤ e.ma ∧ e.ma ≤ 511) := by
  have ho := (chk_zero h).2
  obtain ⟨h1, h2, h3, h4⟩ := shp_bd e.kind
  unfold okB at ho
  simp only [preB, pre0, Bool.and_eq_true] at ho
  obtain ⟨⟨⟨⟨⟨⟨⟨hg, _⟩, _⟩, _⟩, ha⟩, hb⟩, hc⟩, hd⟩ := ho
  refine ⟨?_, in_bd ha h1.1 h1.2, in_bd hb h2.1 h2.2, in_bd hc h3.1 h3.2, in_bd hd h4.1 h4.2⟩
  split at hg
  · exact in_bd hg (by decide) (by decide)
  · exact in_bd hg (by decide) (by decide)

/-! ### An event's bytes -/
def marksI (e : Ev) : Int := (if e.sd then 1 else 0) + if e.ok then 2 else 0
def accS (e : Ev) : Nat → List UInt8
  | 0 => putS e.kind
  | j + 1 => accS e j ++ putS (fieldAt e j + 1)
def encS (e : Ev) : List UInt8 := if chk e = 0 then accS e 5 ++ putS (marksI e) else []
theorem putS_len (n : Int) : (putS n).length ≤ 7 := by
  unfold putS
  split
  · rename_i h
    obtain ⟨a, b⟩ := of_decide_eq_true h
    rw [length_enc]
    exact sizeN_most (by unfold mostN; omega)
  · simp
theorem accS_len (e : Ev) : ∀ j, (accS e j).length ≤ 7 * (j + 1)
  | 0 => putS_len _
  | j + 1 => by
    have h1 := accS_len e j
    have h2 := putS_len (fieldAt e j + 1)
    show (accS e j ++ putS (fieldAt e j + 1)).length ≤ _
    rw [List.length_append]
    omega
theorem encS_len (e : Ev) : (encS e).length ≤ 49 := by
  unfold encS
  split
  · have h1 := accS_len e 5
    have h2 := putS_len (marksI e)
    rw [List.length_append]
    omega
  · simp

/-- The event's block. -/
structure EvAt (e : Ev) (b : Nat) (w0 w : World) : Prop where
  ev : w.heap[b]? = some (Obj.cells #[.int .i64 e.kind, .int .i64 e.g, .int .i64 e.ch, .int .i64 e.cs, .int .i64 e.va, .int .i64 e.ma, .bool e.sd, .bool e.ok] 23 (0, 0))
  bel : Below w0.heap.size w0 w
theorem EvAt.below {e : Ev} {b : Nat} {w0 w w' : World} (h : EvAt e b w0 w) (hB : Below w.heap.size w w') : EvAt e b w0 w' :=
  ⟨(hB.block _ (lt_of_heap h.ev)).trans h.ev, h.bel.trans (hB.mono h.bel.size)⟩

set_option maxHeartbeats 4000000 in
theorem encode_any (e : Ev) (w : World) (hg : Glob w) : Calls Tryd.prog 9 #[evV e] w fun r w' => r = .returned (.tuple #[bs (encS e), .int .i64 (chk e)]) ∧ Below w.heap.size w w' := by
  have G := Lib.hid hg
  have CK := Lib.hid (check_any e)
  have E0 : EvAt e w.heap.size w (w.alloc (.cells #[.int .i64 e.kind, .int .i64 e.g, .int .i64 e.ch, .int .i64 e.cs, .int .i64 e.va, .int .i64 e.ma, .bool e.sd, .bool e.ok] 23)) := ⟨heap_alloc_new _ _, below1 _ _⟩
  obtain ⟨c, hc⟩ : ∃ c, chk e = c := ⟨_, rfl⟩
  have HC := Lib.hid hc
  obtain ⟨W, hW⟩ : ∃ W, w.alloc (.cells #[.int .i64 e.kind, .int .i64 e.g, .int .i64 e.ch, .int .i64 e.cs, .int .i64 e.va, .int .i64 e.ma, .bool e.sd, .bool e.ok] 23) = W := ⟨_, rfl⟩
  rw [hW] at E0
  have GW := Lib.hid (G.out.below (show Below w.heap.size w W by rw [← hW]; exact below1 _ _))
  have EW := Lib.hid E0
  obtain ⟨z0, z1, z2, z3, z4, z5, z6, z7⟩ := eight_cells E0.ev
  unfold evV at CK ⊢
  rw [hc] at CK ⊢
  clear hg hc E0
  by_cases h0 : c = 0
  · subst h0
    have EN := Lib.hid (show encS e = accS e 5 ++ putS (marksI e) from if_pos HC.out)
    rw [EN.out]
    have BD := Lib.hid (chk_bd HC.out)
    go_enter Tryd.func9, Tryd.ntmps9
    go_wp2_with fail
    refine (CK.out W GW.out).mono ?_
    rintro r w1 ⟨rfl, hB1⟩
    have E1 := Lib.hid (EW.out.below hB1)
    clear hB1 z0 z1 z2 z3 z4 z5 z6 z7 hW
    obtain ⟨z0, z1, z2, z3, z4, z5, z6, z7⟩ := eight_cells E1.out.ev
    go_wp2_with fail
    refine (put_any e.kind _).mono ?_
    rintro r w2 ⟨rfl, hB2⟩
    have E2 := Lib.hid (E1.out.below hB2)
    clear hB2 z0 z1 z2 z3 z4 z5 z6 z7
    go_wp2_with fail
    refine (fields_any w.heap.size _).mono ?_
    rintro r w3 ⟨rfl, hB3⟩
    have E3 := Lib.hid (E2.out.below hB3)
    clear hB3
    go_wp2_with fail
    go_loopw [5, 26] (fun s5 i wr => ∃ j : Nat, j ≤ 5 ∧ i = .int .i64 j ∧ s5 = bs (accS e j) ∧ EvAt e w.heap.size w wr) (fun _ i _ => 5 - (intOf i).toNat)
    case atStart => exact ⟨0, by omega, rfl, rfl, E3.out⟩
    case round =>
      obtain ⟨j, hj, rfl, rfl, hE⟩ := hrel
      have ER := Lib.hid hE
      obtain ⟨z0, z1, z2, z3, z4, z5, z6, z7⟩ := eight_cells hE.ev
      clear hE
      obtain ⟨x, hx⟩ : ∃ x, accS e j = x := ⟨_, rfl⟩
      rw [hx]
      have HX := Lib.hid hx
      have hlen : x.length ≤ 100 := by rw [← hx]; have := accS_len e j; omega
      clear hx
      have hj' : j = 0 ∨ j = 1 ∨ j = 2 ∨ j = 3 ∨ j = 4 ∨ j = 5 := by omega
      rcases hj' with rfl | rfl | rfl | rfl | rfl | rfl
      · rw [show ((0 : Nat) : Int) = 0 from rfl]
        have hbd : -1 ≤ e.g ∧ e.g ≤ 511 := BD.out.1
        obtain ⟨hb0, hb1⟩ := hbd
        go_wp2_with fail
        refine (put_any (e.g + 1) _).mono ?_
        rintro r w4 ⟨rfl, hB4⟩
        have hl2 := putS_len (e.g + 1)
        have AN := Lib.hid (show accS e 1 = x ++ putS (e.g + 1) by rw [← HX.out]; rfl)
        have E4 := Lib.hid (ER.out.below hB4)
        obtain ⟨y, hy⟩ : ∃ y, putS (e.g + 1) = y := ⟨_, rfl⟩
        rw [hy] at hl2 AN ⊢
        clear hB4 hy
        go_wp2_with fail
        go_roundw
        case rel => exact ⟨1, by omega, by go_num, by rw [AN.out], E4.out⟩
        case measure => simp [intOf]
      · rw [show ((1 : Nat) : Int) = 1 from rfl]
        have hbd : -1 ≤ e.ch ∧ e.ch ≤ 511 := BD.out.2.1
        obtain ⟨hb0, hb1⟩ := hbd
        go_wp2_with fail
        refine (put_any (e.ch + 1) _).mono ?_
        rintro r w4 ⟨rfl, hB4⟩
        have hl2 := putS_len (e.ch + 1)
        have AN := Lib.hid (show accS e 2 = x ++ putS (e.ch + 1) by rw [← HX.out]; rfl)
        have E4 := Lib.hid (ER.out.below hB4)
        obtain ⟨y, hy⟩ : ∃ y, putS (e.ch + 1) = y := ⟨_, rfl⟩
        rw [hy] at hl2 AN ⊢
        clear hB4 hy
        go_wp2_with fail
        go_roundw
        case rel => exact ⟨2, by omega, by go_num, by rw [AN.out], E4.out⟩
        case measure => simp [intOf]
      · rw [show ((2 : Nat) : Int) = 2 from rfl]
        have hbd : -1 ≤ e.cs ∧ e.cs ≤ 511 := BD.out.2.2.1
        obtain ⟨hb0, hb1⟩ := hbd
        go_wp2_with fail
        refine (put_any (e.cs + 1) _).mono ?_
        rintro r w4 ⟨rfl, hB4⟩
        have hl2 := putS_len (e.cs + 1)
        have AN := Lib.hid (show accS e 3 = x ++ putS (e.cs + 1) by rw [← HX.out]; rfl)
        have E4 := Lib.hid (ER.out.below hB4)
        obtain ⟨y, hy⟩ : ∃ y, putS (e.cs + 1) = y := ⟨_, rfl⟩
        rw [hy] at hl2 AN ⊢
        clear hB4 hy
        go_wp2_with fail
        go_roundw
        case rel => exact ⟨3, by omega, by go_num, by rw [AN.out], E4.out⟩
        case measure => simp [intOf]
      · rw [show ((3 : Nat) : Int) = 3 from rfl]
        have hbd : -1 ≤ e.va ∧ e.va ≤ 511 := BD.out.2.2.2.1
        obtain ⟨hb0, hb1⟩ := hbd
        go_wp2_with fail
        refine (put_any (e.va + 1) _).mono ?_
        rintro r w4 ⟨rfl, hB4⟩
        have hl2 := putS_len (e.va + 1)
        have AN := Lib.hid (show accS e 4 = x ++ putS (e.va + 1) by rw [← HX.out]; rfl)
        have E4 := Lib.hid (ER.out.below hB4)
        obtain ⟨y, hy⟩ : ∃ y, putS (e.va + 1) = y := ⟨_, rfl⟩
        rw [hy] at hl2 AN ⊢
        clear hB4 hy
        go_wp2_with fail
        go_roundw
        case rel => exact ⟨4, by omega, by go_num, by rw [AN.out], E4.out⟩
        case measure => simp [intOf]
      · rw [show ((4 : Nat) : Int) = 4 from rfl]
        have hbd : -1 ≤ e.ma ∧ e.ma ≤ 511 := BD.out.2.2.2.2
        obtain ⟨hb0, hb1⟩ := hbd
        go_wp2_with fail
        refine (put_any (e.ma + 1) _).mono ?_
        rintro r w4 ⟨rfl, hB4⟩
        have hl2 := putS_len (e.ma + 1)
        have AN := Lib.hid (show accS e 5 = x ++ putS (e.ma + 1) by rw [← HX.out]; rfl)
        have E4 := Lib.hid (ER.out.below hB4)
        obtain ⟨y, hy⟩ : ∃ y, putS (e.ma + 1) = y := ⟨_, rfl⟩
        rw [hy] at hl2 AN ⊢
        clear hB4 hy
        go_wp2_with fail
        go_roundw
        case rel => exact ⟨5, by omega, by go_num, by rw [AN.out], E4.out⟩
        case measure => simp [intOf]
      · rw [show ((5 : Nat) : Int) = 5 from rfl]
        have hp := putS_len (marksI e)
        obtain ⟨y, hy⟩ : ∃ y, putS (marksI e) = y := ⟨_, rfl⟩
        obtain ⟨m, hm⟩ : ∃ m, marksI e = m := ⟨_, rfl⟩
        have PM := Lib.hid (show ∀ w, Calls Tryd.prog 22 #[.int .i64 m] w fun r w' => r = .returned (.tuple #[bs y, .int .i64 (putE m)]) ∧ Below w.heap.size w w' from fun w => by have := put_any (marksI e) w; rw [hy, hm] at this; exact this)
        rw [hy] at hp
        have HX2 := Lib.hid (show accS e 5 ++ putS (marksI e) = x ++ y by rw [HX.out, hy])

        obtain ⟨sd, hsd⟩ : ∃ sd, e.sd = sd := ⟨_, rfl⟩
        obtain ⟨ok, hok⟩ : ∃ ok, e.ok = ok := ⟨_, rfl⟩
        rw [hsd] at z6
        rw [hok] at z7
        have hm2 : m = (if sd then 1 else 0) + if ok then 2 else 0 := by rw [← hm, ← hsd, ← hok]; rfl
        clear hy hm hsd hok HX
        cases sd <;> cases ok
        all_goals
          simp only [Bool.false_eq_true, if_false, if_true] at hm2
          have hm3 : m = _ := hm2
          subst hm3
          clear hm2
          go_wp2_with fail
          refine (PM.out _).mono ?_
          rintro r w5 ⟨rfl, hB5⟩
          have E5 := Lib.hid (ER.out.below hB5)
          clear hB5
          go_wp2_with fail
          go_ret2
          exact ⟨by rw [HX2.out]; rfl, E5.out.bel⟩
  · have d : (c == 0) = false := by simpa using h0
    have EN := Lib.hid (show encS e = [] from if_neg (by rw [HC.out]; exact h0))
    rw [EN.out]
    clear h0
    go_enter Tryd.func9, Tryd.ntmps9
    go_wp2_with fail
    refine (CK.out W GW.out).mono ?_
    rintro r w1 ⟨rfl, hB1⟩
    have E1 := Lib.hid (EW.out.below hB1)
    clear hB1
    go_wp2_with fail
    go_ret2
    exact ⟨rfl, E1.out.bel⟩

end Go.Proofs.YtmmkdbcgkafolaaDoor

