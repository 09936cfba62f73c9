
/-
  Package entry: Decode.
-/
import Derived.Test.YtmmkdbcgkafolaaDoorEntC
import Derived.Test.YtmmkdbcgkafolaaDoorTake
namespace Go.Proofs.YtmmkdbcgkafolaaDoor
open Go.RowKit
set_option linter.unusedVariables false
set_option linter.unusedSimpArgs false
set_option maxRecDepth 100000
attribute [local go_sem ↓] run_idx5_0 run_idx5_1 run_idx5_2 run_idx5_3 run_idx5_4

/-! ### Seven numbers -/
def rst (l : List UInt8) : Nat → List UInt8
  | 0 => l
  | j + 1 => takR (rst l j)
def num (l : List UInt8) (j : Nat) : Int := takV (rst l j)
def okJ (l : List UInt8) : Nat → Bool
  | 0 => true
  | j + 1 => okJ l j && (takE (rst l j) == 0)
def m1 (m : Int) : Bool := bits .and .i64 m 1 == 1
def m2 (m : Int) : Bool := bits .and .i64 m 2 == 2
def evOf (l : List UInt8) : Ev := ⟨num l 0, num l 1 - 1, num l 2 - 1, num l 3 - 1, num l 4 - 1, num l 5 - 1, m1 (num l 6), m2 (num l 6)⟩
def decB (l : List UInt8) : Bool := okJ l 7 && (decide (num l 6 ≤ 3) && (chk (evOf l) == 0))
def zeroEv : Ev := ⟨0, 0, 0, 0, 0, 0, false, false⟩
def decE (l : List UInt8) : Ev := if decB l then evOf l else zeroEv
def decR (l : List UInt8) : List UInt8 := if decB l then rst l 7 else []
def decF (l : List UInt8) : Int := if decB l then 0 else 4

theorem takR_len (l : List UInt8) : (takR l).length ≤ l.length := by
  unfold takR
  split
  · simp
  · simp
theorem rst_len (l : List UInt8) : ∀ j, (rst l j).length ≤ l.length
  | 0 => Nat.le_refl _
  | j + 1 => Nat.le_trans (takR_len _) (rst_len l j)
theorem takE_or (l : List UInt8) : takE l = 0 ∨ takE l = 4 := by
  unfold takE
  split
  · exact .inl rfl
  · exact .inr rfl
theorem takV_bd (l : List UInt8) : 0 ≤ takV l ∧ takV l ≤ 281474976710655 := by
  unfold takV
  split
  · rename_i n z h
    have := (tak_some h).1
    unfold mostN at this
    omega
  · omega
theorem num_bd (l : List UInt8) (j : Nat) : 0 ≤ num l j ∧ num l j ≤ 281474976710655 := takV_bd _
/-- What is known behind j rounds. -/
def fld (l : List UInt8) (j : Nat) : Ev := ⟨num l 0, if 1 ≤ j then num l 1 - 1 else 0, if 2 ≤ j then num l 2 - 1 else 0, if 3 ≤ j then num l 3 - 1 else 0, if 4 ≤ j then num l 4 - 1 else 0, if 5 ≤ j then num l 5 - 1 else 0, false, false⟩
def evC (e : Ev) : Array Value := #[.int .i64 e.kind, .int .i64 e.g, .int .i64 e.ch, .int .i64 e.cs, .int .i64 e.va, .int .i64 e.ma, .bool e.sd, .bool e.ok]
structure DS (b c : Nat) (x : Ev) (w0 w : World) : Prop where
  z : w.heap[b]? = some (Obj.cells (evC zeroEv) 23 (0, 0))
  e : w.heap[c]? = some (Obj.cells (evC x) 23 (0, 0))
  bel : Below w0.heap.size w0 w
theorem DS.below {b c : Nat} {x : Ev} {w0 w w' : World} (h : DS b c x w0 w) (hB : Below w.heap.size w w') : DS b c x w0 w' :=
  ⟨(hB.block _ (lt_of_heap h.z)).trans h.z, (hB.block _ (lt_of_heap h.e)).trans h.e, h.bel.trans (hB.mono h.bel.size)⟩
theorem decF_no {l : List UInt8} (h : decB l = false) : decE l = zeroEv ∧ decR l = [] ∧ decF l = 4 := by simp [decE, decR, decF, h]
theorem decB_no {l : List UInt8} (j : Nat) (hj : j < 7) (h : takE (rst l j) = 4) : decB l = false := by
  have h0 : (takE (rst l j) == 0) = false := by rw [h]; rfl
  have : okJ l 7 = false := by
    have hj' : j = 0 ∨ j = 1 ∨ j = 2 ∨ j = 3 ∨ j = 4 ∨ j = 5 ∨ j = 6 := by omega
    rcases hj' with rfl | rfl | rfl | rfl | rfl | rfl | rfl <;> simp [okJ, h0]
  simp [decB, this]

theorem DS.set {b c : Nat} {x : Ev} {w0 w : World} (h : DS b c x w0 w) (hne : b ≠ c) (hc : w0.heap.size ≤ c) (o : Nat) (v : Value) (x' : Ev) (hx : (evC x).setIfInBounds o v = evC x') : DS b c x' w0 (w.setCell ⟨c, o, none⟩ v) :=
  ⟨(heap_setCell_other _ _ _ _ hne).trans h.z, by rw [← hx]; exact heap_setCell_same _ _ _ _ _ _ h.e, h.bel.setCell hc _⟩
theorem DS.drewN {b c : Nat} {x : Ev} {w0 w : World} (h : DS b c x w0 w) (n : Nat) : DS b c x w0 (w.drewN n) := h.below (below_drewN (Below.refl _ _) n)

theorem dec_end {w W : World} {B : Nat} {x y : Ev} {tmps : Array Value} {rr : Value} (h : W.heap[B]? = some (Obj.cells (evC y) 23 (0, 0))) (hB : Below w.heap.size w W) (hle : w.heap.size ≤ B)
    (ht : tmps.getD 2 undef = .pointer (some ⟨B, 0, none⟩)) (hr : rr = .tuple #[evV x, tmps.getD 3 undef, tmps.getD 4 undef]) :
    bodyPost Tryd.prog Tryd.f14 (fun r w' => r = Ending.returned rr ∧ Below w.heap.size w w') Exit.ret { tmps := tmps, defers := [] }
      ((((((((W.setCell ⟨B, 0, none⟩ (.int .i64 x.kind)).setCell ⟨B, 1, none⟩ (.int .i64 x.g)).setCell ⟨B, 2, none⟩ (.int .i64 x.ch)).setCell ⟨B, 3, none⟩ (.int .i64 x.cs)).setCell ⟨B, 4, none⟩ (.int .i64 x.va)).setCell ⟨B, 5, none⟩ (.int .i64 x.ma)).setCell ⟨B, 6, none⟩ (.bool x.sd)).setCell ⟨B, 7, none⟩ (.bool x.ok)) := by
  obtain ⟨V, hV⟩ : ∃ V, ((((((((W.setCell ⟨B, 0, none⟩ (.int .i64 x.kind)).setCell ⟨B, 1, none⟩ (.int .i64 x.g)).setCell ⟨B, 2, none⟩ (.int .i64 x.ch)).setCell ⟨B, 3, none⟩ (.int .i64 x.cs)).setCell ⟨B, 4, none⟩ (.int .i64 x.va)).setCell ⟨B, 5, none⟩ (.int .i64 x.ma)).setCell ⟨B, 6, none⟩ (.bool x.sd)).setCell ⟨B, 7, none⟩ (.bool x.ok)) = V := ⟨_, rfl⟩
  have hc : V.heap[B]? = some (Obj.cells #[.int .i64 x.kind, .int .i64 x.g, .int .i64 x.ch, .int .i64 x.cs, .int .i64 x.va, .int .i64 x.ma, .bool x.sd, .bool x.ok] 23 (0, 0)) := by
    rw [← hV]
    have h0 := heap_setCell_same _ _ 0 _ _ (.int .i64 x.kind) h
    have h1 := heap_setCell_same _ _ 1 _ _ (.int .i64 x.g) h0
    have h2 := heap_setCell_same _ _ 2 _ _ (.int .i64 x.ch) h1
    have h3 := heap_setCell_same _ _ 3 _ _ (.int .i64 x.cs) h2
    have h4 := heap_setCell_same _ _ 4 _ _ (.int .i64 x.va) h3
    have h5 := heap_setCell_same _ _ 5 _ _ (.int .i64 x.ma) h4
    have h6 := heap_setCell_same _ _ 6 _ _ (.bool x.sd) h5
    have h7 := heap_setCell_same _ _ 7 _ _ (.bool x.ok) h6
    rw [h7]
    simp [evC]
  have hb : Below w.heap.size w V := by
    rw [← hV]
    exact (((((((hB.setCell hle _).setCell hle _).setCell hle _).setCell hle _).setCell hle _).setCell hle _).setCell hle _).setCell hle _
  rw [hV]
  clear hV
  obtain ⟨z0, z1, z2, z3, z4, z5, z6, z7⟩ := eight_cells hc
  have ht' : tmps[2]?.getD undef = .pointer (some ⟨B, 0, none⟩) := by simpa using ht
  refine bodyPost_ret (v := .tuple #[evV x, tmps.getD 3 undef, tmps.getD 4 undef]) ?_ rfl ⟨by rw [hr], hb⟩
  simp [results, Tryd.results14, ht', asAddr, go_sem, z0, z1, z2, z3, z4, z5, z6, z7, evV]

set_option maxHeartbeats 4000000 in
theorem decode_any (l : List UInt8) (w : World) (hg : Glob w) (hl : l.length ≤ 140737488351232) : Calls Tryd.prog 14 #[bs l] w fun r w' => r = .returned (.tuple #[evV (decE l), bs (decR l), .int .i64 (decF l)]) ∧ Below w.heap.size w w' := by
  have G := Lib.hid hg
  have T : ∀ j, Hid (∀ W, Calls Tryd.prog 29 #[bs (rst l j)] W fun e w' => e = .returned (.tuple #[.int .i64 (num l j), bs (rst l (j + 1)), .int .i64 (takE (rst l j))]) ∧ ∃ n, w' = W.drewN n) := fun j => Lib.hid (fun W => take_any (rst l j) W (Nat.le_trans (rst_len l j) hl))
  have BZ : w.heap.size ≠ w.heap.size + 1 := by omega
  obtain ⟨rr, hrr⟩ : ∃ r, (Value.tuple #[evV (decE l), bs (decR l), .int .i64 (decF l)]) = r := ⟨_, rfl⟩
  have RR := Lib.hid hrr
  rw [hrr]
  have NO : Hid (∀ j, j < 7 → takE (rst l j) = 4 → rr = .tuple #[evV zeroEv, bs [], .int .i64 4]) := Lib.hid (fun j hj h => by
    obtain ⟨e1, e2, e3⟩ := decF_no (decB_no j hj h)
    rw [← RR.out, e1, e2, e3])
  clear hg hl hrr
  go_enter Tryd.func14, Tryd.ntmps14
  go_wp2_with fail
  refine ((T 0).out _).mono ?_
  rintro r w1 ⟨rfl, n1, rfl⟩
  go_wp2_with fail
  have D0 : DS w.heap.size (w.heap.size + 1) (fld l 0) w (((w.alloc (Obj.cells (evC zeroEv) 23)).drewN n1).alloc (Obj.cells (evC (fld l 0)) 23)) :=
    ⟨by rw [heap_alloc_old _ _ (by simp [World.drewN])]; exact heap_alloc_new _ _, by have h := heap_alloc_new ((w.alloc (Obj.cells (evC zeroEv) 23)).drewN n1) (Obj.cells (evC (fld l 0)) 23); rwa [show ((w.alloc (Obj.cells (evC zeroEv) 23)).drewN n1).heap.size = w.heap.size + 1 by simp [World.drewN]] at h, (below_drewN (below1 _ _) n1).alloc (by simp [World.drewN]) _⟩
  have D1 := Lib.hid D0
  clear D0
  refine (fields_any (w.heap.size + 1) _).mono ?_
  rintro r w3 ⟨rfl, hB3⟩
  have D3 := Lib.hid (D1.out.below hB3)
  clear hB3 D1
  go_wp2_with fail
  go_loopw [0, 6, 20] (fun s0 s6 i wr => ∃ j : Nat, j ≤ 5 ∧ i = .int .i64 j ∧ s0 = bs (rst l (j + 1)) ∧ s6 = .int .i64 (takE (rst l j)) ∧ okJ l j = true ∧ DS w.heap.size (w.heap.size + 1) (fld l j) w wr) (fun _ _ i _ => 5 - (intOf i).toNat)
  case atStart => exact ⟨0, by omega, rfl, rfl, rfl, rfl, D3.out⟩
  case round =>
    obtain ⟨j, hj, rfl, rfl, rfl, hok, hD⟩ := hrel
    have OK := Lib.hid hok
    have DR := Lib.hid hD
    clear hok hD
    have hj' : j = 0 ∨ j = 1 ∨ j = 2 ∨ j = 3 ∨ j = 4 ∨ j = 5 := by omega
    rcases hj' with rfl | rfl | rfl | rfl | rfl | rfl
    · rw [show ((0 : Nat) : Int) = 0 from rfl]
      obtain ⟨z0, z1, z2, z3, z4, z5, z6, z7⟩ := eight_cells (show wr.heap[w.heap.size + 1]? = some (Obj.cells #[.int .i64 (num l 0), .int .i64 0, .int .i64 0, .int .i64 0, .int .i64 0, .int .i64 0, .bool false, .bool false] 23 (0, 0)) from DR.out.e)
      obtain ⟨q0, q1, q2, q3, q4, q5, q6, q7⟩ := eight_cells (show wr.heap[w.heap.size]? = some (Obj.cells #[.int .i64 0, .int .i64 0, .int .i64 0, .int .i64 0, .int .i64 0, .int .i64 0, .bool false, .bool false] 23 (0, 0)) from DR.out.z)
      have fz1 : ∀ o, wr.frozen? ⟨w.heap.size + 1, o, none⟩ = false := fun o => frozen_of_row _ _ o _ _ DR.out.e
      have fz0 : ∀ o, wr.frozen? ⟨w.heap.size, o, none⟩ = false := fun o => frozen_of_row _ _ o _ _ DR.out.z
      rcases takE_or (rst l 0) with he | he
      · have OK2 := Lib.hid (show okJ l 1 = true by rw [okJ, OK.out, he]; rfl)
        rw [he]
        clear he
        go_wp2_with fail
        refine ((T 1).out _).mono ?_
        rintro r w4 ⟨rfl, n4, rfl⟩
        obtain ⟨b0, b1⟩ := num_bd l 1
        go_wp2_with fail
        go_roundw
        case rel => exact ⟨1, by omega, by go_num, rfl, rfl, OK2.out, ((DR.out.drewN n4).set BZ (by omega) 1 _ ⟨num l 0, num l 1, 0, 0, 0, 0, false, false⟩ rfl).set BZ (by omega) 1 _ (fld l 1) rfl⟩
        case measure => simp [intOf]
      · have N := Lib.hid (NO.out 0 (by omega) he)
        rw [he]
        clear he
        go_wp2_with fail
        exact dec_end (x := zeroEv) DR.out.z DR.out.bel (Nat.le_refl _) rfl N.out
    · rw [show ((1 : Nat) : Int) = 1 from rfl]
      obtain ⟨z0, z1, z2, z3, z4, z5, z6, z7⟩ := eight_cells (show wr.heap[w.heap.size + 1]? = some (Obj.cells #[.int .i64 (num l 0), .int .i64 (num l 1 - 1), .int .i64 0, .int .i64 0, .int .i64 0, .int .i64 0, .bool false, .bool false] 23 (0, 0)) from DR.out.e)
      obtain ⟨q0, q1, q2, q3, q4, q5, q6, q7⟩ := eight_cells (show wr.heap[w.heap.size]? = some (Obj.cells #[.int .i64 0, .int .i64 0, .int .i64 0, .int .i64 0, .int .i64 0, .int .i64 0, .bool false, .bool false] 23 (0, 0)) from DR.out.z)
      have fz1 : ∀ o, wr.frozen? ⟨w.heap.size + 1, o, none⟩ = false := fun o => frozen_of_row _ _ o _ _ DR.out.e
      have fz0 : ∀ o, wr.frozen? ⟨w.heap.size, o, none⟩ = false := fun o => frozen_of_row _ _ o _ _ DR.out.z
      rcases takE_or (rst l 1) with he | he
      · have OK2 := Lib.hid (show okJ l 2 = true by rw [okJ, OK.out, he]; rfl)
        rw [he]
        clear he
        go_wp2_with fail
        refine ((T 2).out _).mono ?_
        rintro r w4 ⟨rfl, n4, rfl⟩
        obtain ⟨b0, b1⟩ := num_bd l 2
        go_wp2_with fail
        go_roundw
        case rel => exact ⟨2, by omega, by go_num, rfl, rfl, OK2.out, ((DR.out.drewN n4).set BZ (by omega) 2 _ ⟨num l 0, num l 1 - 1, num l 2, 0, 0, 0, false, false⟩ rfl).set BZ (by omega) 2 _ (fld l 2) rfl⟩
        case measure => simp [intOf]
      · have N := Lib.hid (NO.out 1 (by omega) he)
        rw [he]
        clear he
        go_wp2_with fail
        exact dec_end (x := zeroEv) DR.out.z DR.out.bel (Nat.le_refl _) rfl N.out
    · rw [show ((2 : Nat) : Int) = 2 from rfl]
      obtain ⟨z0, z1, z2, z3, z4, z5, z6, z7⟩ := eight_cells (show wr.heap[w.heap.size + 1]? = some (Obj.cells #[.int .i64 (num l 0), .int .i64 (num l 1 - 1), .int .i64 (num l 2 - 1), .int .i64 0, .int .i64 0, .int .i64 0, .bool false, .bool false] 23 (0, 0)) from DR.out.e)
      obtain ⟨q0, q1, q2, q3, q4, q5, q6, q7⟩ := eight_cells (show wr.heap[w.heap.size]? = some (Obj.cells #[.int .i64 0, .int .i64 0, .int .i64 0, .int .i64 0, .int .i64 0, .int .i64 0, .bool false, .bool false] 23 (0, 0)) from DR.out.z)
      have fz1 : ∀ o, wr.frozen? ⟨w.heap.size + 1, o, none⟩ = false := fun o => frozen_of_row _ _ o _ _ DR.out.e
      have fz0 : ∀ o, wr.frozen? ⟨w.heap.size, o, none⟩ = false := fun o => frozen_of_row _ _ o _ _ DR.out.z
      rcases takE_or (rst l 2) with he | he
      · have OK2 := Lib.hid (show okJ l 3 = true by rw [okJ, OK.out, he]; rfl)
        rw [he]
        clear he
        go_wp2_with fail
        refine ((T 3).out _).mono ?_
        rintro r w4 ⟨rfl, n4, rfl⟩
        obtain ⟨b0, b1⟩ := num_bd l 3
        go_wp2_with fail
        go_roundw
        case rel => exact ⟨3, by omega, by go_num, rfl, rfl, OK2.out, ((DR.out.drewN n4).set BZ (by omega) 3 _ ⟨num l 0, num l 1 - 1, num l 2 - 1, num l 3, 0, 0, false, false⟩ rfl).set BZ (by omega) 3 _ (fld l 3) rfl⟩
        case measure => simp [intOf]
      · have N := Lib.hid (NO.out 2 (by omega) he)
        rw [he]
        clear he
        go_wp2_with fail
        exact dec_end (x := zeroEv) DR.out.z DR.out.bel (Nat.le_refl _) rfl N.out
    · rw [show ((3 : Nat) : Int) = 3 from rfl]
      obtain ⟨z0, z1, z2, z3, z4, z5, z6, z7⟩ := eight_cells (show wr.heap[w.heap.size + 1]? = some (Obj.cells #[.int .i64 (num l 0), .int .i64 (num l 1 - 1), .int .i64 (num l 2 - 1), .int .i64 (num l 3 - 1), .int .i64 0, .int .i64 0, .bool false, .bool false] 23 (0, 0)) from DR.out.e)
      obtain ⟨q0, q1, q2, q3, q4, q5, q6, q7⟩ := eight_cells (show wr.heap[w.heap.size]? = some (Obj.cells #[.int .i64 0, .int .i64 0, .int .i64 0, .int .i64 0, .int .i64 0, .int .i64 0, .bool false, .bool false] 23 (0, 0)) from DR.out.z)
      have fz1 : ∀ o, wr.frozen? ⟨w.heap.size + 1, o, none⟩ = false := fun o => frozen_of_row _ _ o _ _ DR.out.e
      have fz0 : ∀ o, wr.frozen? ⟨w.heap.size, o, none⟩ = false := fun o => frozen_of_row _ _ o _ _ DR.out.z
      rcases takE_or (rst l 3) with he | he
      · have OK2 := Lib.hid (show okJ l 4 = true by rw [okJ, OK.out, he]; rfl)
        rw [he]
        clear he
        go_wp2_with fail
        refine ((T 4).out _).mono ?_
        rintro r w4 ⟨rfl, n4, rfl⟩
        obtain ⟨b0, b1⟩ := num_bd l 4
        go_wp2_with fail
        go_roundw
        case rel => exact ⟨4, by omega, by go_num, rfl, rfl, OK2.out, ((DR.out.drewN n4).set BZ (by omega) 4 _ ⟨num l 0, num l 1 - 1, num l 2 - 1, num l 3 - 1, num l 4, 0, false, false⟩ rfl).set BZ (by omega) 4 _ (fld l 4) rfl⟩
        case measure => simp [intOf]
      · have N := Lib.hid (NO.out 3 (by omega) he)
        rw [he]
        clear he
        go_wp2_with fail
        exact dec_end (x := zeroEv) DR.out.z DR.out.bel (Nat.le_refl _) rfl N.out
    · rw [show ((4 : Nat) : Int) = 4 from rfl]
      obtain ⟨z0, z1, z2, z3, z4, z5, z6, z7⟩ := eight_cells (show wr.heap[w.heap.size + 1]? = some (Obj.cells #[.int .i64 (num l 0), .int .i64 (num l 1 - 1), .int .i64 (num l 2 - 1), .int .i64 (num l 3 - 1), .int .i64 (num l 4 - 1), .int .i64 0, .bool false, .bool false] 23 (0, 0)) from DR.out.e)
      obtain ⟨q0, q1, q2, q3, q4, q5, q6, q7⟩ := eight_cells (show wr.heap[w.heap.size]? = some (Obj.cells #[.int .i64 0, .int .i64 0, .int .i64 0, .int .i64 0, .int .i64 0, .int .i64 0, .bool false, .bool false] 23 (0, 0)) from DR.out.z)
      have fz1 : ∀ o, wr.frozen? ⟨w.heap.size + 1, o, none⟩ = false := fun o => frozen_of_row _ _ o _ _ DR.out.e
      have fz0 : ∀ o, wr.frozen? ⟨w.heap.size, o, none⟩ = false := fun o => frozen_of_row _ _ o _ _ DR.out.z
      rcases takE_or (rst l 4) with he | he
      · have OK2 := Lib.hid (show okJ l 5 = true by rw [okJ, OK.out, he]; rfl)
        rw [he]
        clear he
        go_wp2_with fail
        refine ((T 5).out _).mono ?_
        rintro r w4 ⟨rfl, n4, rfl⟩
        obtain ⟨b0, b1⟩ := num_bd l 5
        go_wp2_with fail
        go_roundw
        case rel => exact ⟨5, by omega, by go_num, rfl, rfl, OK2.out, ((DR.out.drewN n4).set BZ (by omega) 5 _ ⟨num l 0, num l 1 - 1, num l 2 - 1, num l 3 - 1, num l 4 - 1, num l 5, false, false⟩ rfl).set BZ (by omega) 5 _ (fld l 5) rfl⟩
        case measure => simp [intOf]
      · have N := Lib.hid (NO.out 4 (by omega) he)
        rw [he]
        clear he
        go_wp2_with fail
        exact dec_end (x := zeroEv) DR.out.z DR.out.bel (Nat.le_refl _) rfl N.out
    · rw [show ((5 : Nat) : Int) = 5 from rfl]
      obtain ⟨z0, z1, z2, z3, z4, z5, z6, z7⟩ := eight_cells (show wr.heap[w.heap.size + 1]? = some (Obj.cells #[.int .i64 (num l 0), .int .i64 (num l 1 - 1), .int .i64 (num l 2 - 1), .int .i64 (num l 3 - 1), .int .i64 (num l 4 - 1), .int .i64 (num l 5 - 1), .bool false, .bool false] 23 (0, 0)) from DR.out.e)
      obtain ⟨q0, q1, q2, q3, q4, q5, q6, q7⟩ := eight_cells (show wr.heap[w.heap.size]? = some (Obj.cells #[.int .i64 0, .int .i64 0, .int .i64 0, .int .i64 0, .int .i64 0, .int .i64 0, .bool false, .bool false] 23 (0, 0)) from DR.out.z)
      have fz1 : ∀ o, wr.frozen? ⟨w.heap.size + 1, o, none⟩ = false := fun o => frozen_of_row _ _ o _ _ DR.out.e
      have fz0 : ∀ o, wr.frozen? ⟨w.heap.size, o, none⟩ = false := fun o => frozen_of_row _ _ o _ _ DR.out.z
      rcases takE_or (rst l 5) with he | he
      · have OK2 := Lib.hid (show okJ l 6 = true by rw [okJ, OK.out, he]; rfl)
        rw [he]
        clear he
        go_wp2_with fail
        refine ((T 6).out _).mono ?_
        rintro r w4 ⟨rfl, n4, rfl⟩
        obtain ⟨b0, b1⟩ := num_bd l 6
        have D6 := Lib.hid (DR.out.drewN n4)
        obtain ⟨W6, hW6⟩ : ∃ W, wr.drewN n4 = W := ⟨_, rfl⟩
        rw [hW6] at D6 ⊢
        clear z0 z1 z2 z3 z4 z5 z6 z7 q0 q1 q2 q3 q4 q5 q6 q7 fz1 fz0 hW6
        obtain ⟨m, hm⟩ : ∃ m, num l 6 = m := ⟨_, rfl⟩
        rw [hm] at b0 b1 ⊢
        have HM := Lib.hid hm
        clear hm
        obtain ⟨u1, hu1⟩ : ∃ u, (bits .and .i64 m 1 == 1) = u := ⟨_, rfl⟩
        obtain ⟨u2, hu2⟩ : ∃ u, (bits .and .i64 m 2 == 2) = u := ⟨_, rfl⟩
        have hev : evOf l = ⟨num l 0, num l 1 - 1, num l 2 - 1, num l 3 - 1, num l 4 - 1, num l 5 - 1, u1, u2⟩ := by rw [← hu1, ← hu2, ← HM.out]; rfl
        have HE := Lib.hid hev
        clear hev
        have fz1 : ∀ o, W6.frozen? ⟨w.heap.size + 1, o, none⟩ = false := fun o => frozen_of_row _ _ o _ _ D6.out.e
        obtain ⟨-, -, -, -, -, -, y6, y7⟩ := eight_cells (show W6.heap[w.heap.size + 1]? = some (Obj.cells #[.int .i64 (num l 0), .int .i64 (num l 1 - 1), .int .i64 (num l 2 - 1), .int .i64 (num l 3 - 1), .int .i64 (num l 4 - 1), .int .i64 (num l 5 - 1), .bool false, .bool false] 23 (0, 0)) from D6.out.e)
        have D7 := Lib.hid ((D6.out.set BZ (by omega) 6 (.bool u1) ⟨num l 0, num l 1 - 1, num l 2 - 1, num l 3 - 1, num l 4 - 1, num l 5 - 1, u1, false⟩ rfl).set BZ (by omega) 7 (.bool u2) ⟨num l 0, num l 1 - 1, num l 2 - 1, num l 3 - 1, num l 4 - 1, num l 5 - 1, u1, u2⟩ rfl)
        obtain ⟨W7, hW7⟩ : ∃ W, (W6.setCell ⟨w.heap.size + 1, 6, none⟩ (.bool u1)).setCell ⟨w.heap.size + 1, 7, none⟩ (.bool u2) = W := ⟨_, rfl⟩
        rw [hW7] at D7
        obtain ⟨z0, z1, z2, z3, z4, z5, z6, z7⟩ := eight_cells (show W7.heap[w.heap.size + 1]? = some (Obj.cells #[.int .i64 (num l 0), .int .i64 (num l 1 - 1), .int .i64 (num l 2 - 1), .int .i64 (num l 3 - 1), .int .i64 (num l 4 - 1), .int .i64 (num l 5 - 1), .bool u1, .bool u2] 23 (0, 0)) from D7.out.e)
        obtain ⟨q0, q1, q2, q3, q4, q5, q6, q7⟩ := eight_cells (show W7.heap[w.heap.size]? = some (Obj.cells #[.int .i64 0, .int .i64 0, .int .i64 0, .int .i64 0, .int .i64 0, .int .i64 0, .bool false, .bool false] 23 (0, 0)) from D7.out.z)
        have fz0 : ∀ o, W7.frozen? ⟨w.heap.size, o, none⟩ = false := fun o => frozen_of_row _ _ o _ _ D7.out.z
        rcases takE_or (rst l 6) with he6 | he6
        · have OK3 := Lib.hid (show okJ l 7 = true by rw [okJ, OK2.out, he6]; rfl)
          have BF : w.heap.size ≤ W7.heap.size := D7.out.bel.size
          rw [he6]
          by_cases hm3 : 3 < m
          · have N : Hid (rr = .tuple #[evV zeroEv, bs [], .int .i64 4]) := Lib.hid (by
              obtain ⟨e1, e2, e3⟩ := decF_no (l := l) (show decB l = false by unfold decB; rw [OK3.out, HM.out, decide_eq_false (by omega : ¬ m ≤ 3)]; rfl)
              rw [← RR.out, e1, e2, e3])
            clear he6
            go_wp2_with fail
            exact dec_end (x := zeroEv) D7.out.z D7.out.bel (Nat.le_refl _) rfl N.out
          · have CK := Lib.hid (check_any (evOf l) W7 (G.out.below D7.out.bel))
            have hm3' : decide (3 < m) = false := decide_eq_false hm3
            have hm4 : m ≤ 3 := by omega
            obtain ⟨c, hc⟩ : ∃ c, chk (evOf l) = c := ⟨_, rfl⟩
            have C := Lib.hid hc
            rw [hc, HE.out] at CK
            unfold evV at CK
            dsimp only at CK
            clear he6 hc
            go_wp2_with fail
            refine CK.out.mono ?_
            rintro r w5 ⟨rfl, hB5⟩
            have D8 := Lib.hid (D7.out.below hB5)
            clear hB5 z0 z1 z2 z3 z4 z5 z6 z7 q0 q1 q2 q3 q4 q5 q6 q7 fz0 fz1 hW7 y6 y7
            obtain ⟨z0, z1, z2, z3, z4, z5, z6, z7⟩ := eight_cells (show w5.heap[w.heap.size + 1]? = some (Obj.cells #[.int .i64 (num l 0), .int .i64 (num l 1 - 1), .int .i64 (num l 2 - 1), .int .i64 (num l 3 - 1), .int .i64 (num l 4 - 1), .int .i64 (num l 5 - 1), .bool u1, .bool u2] 23 (0, 0)) from D8.out.e)
            obtain ⟨q0, q1, q2, q3, q4, q5, q6, q7⟩ := eight_cells (show w5.heap[w.heap.size]? = some (Obj.cells #[.int .i64 0, .int .i64 0, .int .i64 0, .int .i64 0, .int .i64 0, .int .i64 0, .bool false, .bool false] 23 (0, 0)) from D8.out.z)
            have fz0 : ∀ o, w5.frozen? ⟨w.heap.size, o, none⟩ = false := fun o => frozen_of_row _ _ o _ _ D8.out.z
            by_cases hc0 : c = 0
            · subst hc0
              have Y := Lib.hid (show decB l = true by unfold decB; rw [OK3.out, HM.out, decide_eq_true hm4, C.out]; rfl)
              go_wp2_with fail
              exact dec_end (x := ⟨num l 0, num l 1 - 1, num l 2 - 1, num l 3 - 1, num l 4 - 1, num l 5 - 1, u1, u2⟩) D8.out.z D8.out.bel (Nat.le_refl _) rfl (by rw [← RR.out]; simp only [decE, decR, decF, Y.out, if_true]; rw [HE.out]; rfl)
            · have hcb : (c == 0) = false := by simpa using hc0
              have N : Hid (rr = .tuple #[evV zeroEv, bs [], .int .i64 4]) := Lib.hid (by
                obtain ⟨e1, e2, e3⟩ := decF_no (l := l) (show decB l = false by unfold decB; rw [C.out, hcb]; simp)
                rw [← RR.out, e1, e2, e3])
              clear hc0
              go_wp2_with fail
              exact dec_end (x := zeroEv) D8.out.z D8.out.bel (Nat.le_refl _) rfl N.out
        · have N := Lib.hid (NO.out 6 (by omega) he6)
          rw [he6]
          clear he6
          go_wp2_with fail
          exact dec_end (x := zeroEv) D7.out.z D7.out.bel (Nat.le_refl _) rfl N.out
      · have N := Lib.hid (NO.out 5 (by omega) he)
        rw [he]
        clear he
        go_wp2_with fail
        exact dec_end (x := zeroEv) DR.out.z DR.out.bel (Nat.le_refl _) rfl N.out
end Go.Proofs.YtmmkdbcgkafolaaDoor

