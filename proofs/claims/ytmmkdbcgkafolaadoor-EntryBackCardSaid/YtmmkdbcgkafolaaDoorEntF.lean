
/-
  The reference's Decode.
-/
import Derived.Test.YtmmkdbcgkafolaaDoorEntD
import Derived.Test.YtmmkdbcgkafolaaDoorEntR6
namespace Go.Proofs.YtmmkdbcgkafolaaDoor
open Go.RowKit
set_option linter.unusedVariables false
set_option linter.unusedSimpArgs false
set_option maxRecDepth 100000

def szN (l : List UInt8) : Nat → Nat
  | 0 => 0
  | j + 1 => szN l j + (takZ (rst l j)).toNat
theorem takE_zero {l : List UInt8} (h : takE l = 0) : ∃ n z, tak l = some (n, z) := by
  unfold takE at h
  split at h
  · rename_i x hx; obtain ⟨n, z⟩ := x; exact ⟨n, z, hx⟩
  · omega
theorem takZ_bd (l : List UInt8) : 0 ≤ takZ l ∧ takZ l ≤ 7 := by
  unfold takZ
  split
  · rename_i n z h
    obtain ⟨h1, h2, _⟩ := tak_some h
    have := sizeN_most h1
    omega
  · omega
theorem sz_drop (l : List UInt8) : ∀ j, okJ l j = true → rst l j = l.drop (szN l j) ∧ szN l j ≤ l.length
  | 0, _ => ⟨rfl, Nat.zero_le _⟩
  | j + 1, h => by
    rw [okJ, Bool.and_eq_true] at h
    obtain ⟨h1, h2⟩ := h
    obtain ⟨e1, e2⟩ := sz_drop l j h1
    obtain ⟨n, z, hz⟩ := takE_zero (by simpa using h2)
    have e3 : takR (rst l j) = (rst l j).drop z := by simp [takR, hz]
    have e4 : takZ (rst l j) = (z : Int) := by simp [takZ, hz]
    have e5 := (tak_some hz).2.2.1
    have e6 : (rst l j).length = l.length - szN l j := by rw [e1, List.length_drop]
    refine ⟨?_, ?_⟩
    · show takR (rst l j) = l.drop (szN l j + (takZ (rst l j)).toNat)
      rw [e3, e4, e1, List.drop_drop]; rfl
    · show szN l j + (takZ (rst l j)).toNat ≤ _
      rw [e4]
      have : ((z : Int)).toNat = z := rfl
      omega
theorem szN_bd (l : List UInt8) : ∀ j, szN l j ≤ 7 * j
  | 0 => Nat.le_refl _
  | j + 1 => by
    have h1 := szN_bd l j
    have h2 := takZ_bd (rst l j)
    show szN l j + (takZ (rst l j)).toNat ≤ _
    omega
def gotS (l : List UInt8) : Int := if decB l then (szN l 7 : Int) else 0
def gotV (e : Ev) (z : Int) : Value := .agg #[.int .i64 e.kind, .int .i64 e.g, .int .i64 e.ch, .int .i64 e.cs, .int .i64 e.va, .int .i64 e.ma, .bool e.sd, .bool e.ok, .int .i64 z]
def nums (l : List UInt8) : Nat → Array Value
  | 0 => #[.int .i64 0, .int .i64 0, .int .i64 0, .int .i64 0, .int .i64 0, .int .i64 0, .int .i64 0]
  | 1 => #[.int .i64 (num l 0), .int .i64 0, .int .i64 0, .int .i64 0, .int .i64 0, .int .i64 0, .int .i64 0]
  | 2 => #[.int .i64 (num l 0), .int .i64 (num l 1), .int .i64 0, .int .i64 0, .int .i64 0, .int .i64 0, .int .i64 0]
  | 3 => #[.int .i64 (num l 0), .int .i64 (num l 1), .int .i64 (num l 2), .int .i64 0, .int .i64 0, .int .i64 0, .int .i64 0]
  | 4 => #[.int .i64 (num l 0), .int .i64 (num l 1), .int .i64 (num l 2), .int .i64 (num l 3), .int .i64 0, .int .i64 0, .int .i64 0]
  | 5 => #[.int .i64 (num l 0), .int .i64 (num l 1), .int .i64 (num l 2), .int .i64 (num l 3), .int .i64 (num l 4), .int .i64 0, .int .i64 0]
  | 6 => #[.int .i64 (num l 0), .int .i64 (num l 1), .int .i64 (num l 2), .int .i64 (num l 3), .int .i64 (num l 4), .int .i64 (num l 5), .int .i64 0]
  | _ => #[.int .i64 (num l 0), .int .i64 (num l 1), .int .i64 (num l 2), .int .i64 (num l 3), .int .i64 (num l 4), .int .i64 (num l 5), .int .i64 (num l 6)]
structure RDS (l : List UInt8) (j b : Nat) (w0 w : World) : Prop where
  z : w.heap[b]? = some (Obj.cells #[.int .i64 0, .int .i64 0, .int .i64 0, .int .i64 0, .int .i64 0, .int .i64 0, .bool false, .bool false, .int .i64 0] 36 (0, 0))
  n : w.heap[b + 1]? = some (Obj.cells (nums l j) 68 (0, 0))
  bel : Below w0.heap.size w0 w
theorem RDS.below {l : List UInt8} {j b : Nat} {w0 w w' : World} (h : RDS l j b w0 w) (hB : Below w.heap.size w w') : RDS l j b w0 w' :=
  ⟨(hB.block _ (lt_of_heap h.z)).trans h.z, (hB.block _ (lt_of_heap h.n)).trans h.n, h.bel.trans (hB.mono h.bel.size)⟩
theorem RDS.set {l : List UInt8} {j b : Nat} {w0 w : World} (h : RDS l j b w0 w) (hb : w0.heap.size ≤ b) (o j' : Nat) (v : Value) (hx : (nums l j).setIfInBounds o v = nums l j') : RDS l j' b w0 (w.setCell ⟨b + 1, o, none⟩ v) :=
  ⟨(heap_setCell_other _ _ _ _ (by simp)).trans h.z, by rw [← hx]; exact heap_setCell_same _ _ _ _ _ _ h.n, h.bel.setCell (by simp; omega) _⟩
theorem seven_cells {w : World} {b : Nat} {x0 x1 x2 x3 x4 x5 x6 : Value} {t : TypeId} (h : w.heap[b]? = some (Obj.cells #[x0, x1, x2, x3, x4, x5, x6] t (0, 0))) :
    w.cell? ⟨b, 0, none⟩ = some x0 ∧ w.cell? ⟨b, 1, none⟩ = some x1 ∧ w.cell? ⟨b, 2, none⟩ = some x2 ∧ w.cell? ⟨b, 3, none⟩ = some x3 ∧ w.cell? ⟨b, 4, none⟩ = some x4 ∧ w.cell? ⟨b, 5, none⟩ = some x5 ∧ w.cell? ⟨b, 6, none⟩ = some x6 := by
  refine ⟨?_, ?_, ?_, ?_, ?_, ?_, ?_⟩ <;> (simp only [World.cell?, h]; rfl)
theorem nine_cells {w : World} {b : Nat} {x0 x1 x2 x3 x4 x5 x6 x7 x8 : Value} {t : TypeId} (h : w.heap[b]? = some (Obj.cells #[x0, x1, x2, x3, x4, x5, x6, x7, x8] t (0, 0))) :
    w.cell? ⟨b, 0, none⟩ = some x0 ∧ w.cell? ⟨b, 1, none⟩ = some x1 ∧ w.cell? ⟨b, 2, none⟩ = some x2 ∧ w.cell? ⟨b, 3, none⟩ = some x3 ∧ w.cell? ⟨b, 4, none⟩ = some x4 ∧ w.cell? ⟨b, 5, none⟩ = some x5 ∧ w.cell? ⟨b, 6, none⟩ = some x6 ∧ w.cell? ⟨b, 7, none⟩ = some x7 ∧ w.cell? ⟨b, 8, none⟩ = some x8 := by
  refine ⟨?_, ?_, ?_, ?_, ?_, ?_, ?_, ?_, ?_⟩ <;> (simp only [World.cell?, h]; rfl)
theorem rdec_end {w W : World} {B : Nat} {x y : Ev} {z u : Int} {tmps : Array Value} {rr : Value} (h : W.heap[B]? = some (Obj.cells #[.int .i64 y.kind, .int .i64 y.g, .int .i64 y.ch, .int .i64 y.cs, .int .i64 y.va, .int .i64 y.ma, .bool y.sd, .bool y.ok, .int .i64 u] 36 (0, 0))) (hB : Below w.heap.size w W) (hle : w.heap.size ≤ B)
    (ht : tmps.getD 2 undef = .pointer (some ⟨B, 0, none⟩)) (hr : rr = .tuple #[gotV x z, tmps.getD 3 undef]) :
    bodyPost Tryd.prog Tryd.f15 (fun r w' => r = Ending.returned rr ∧ Below w.heap.size w w') Exit.ret { tmps := tmps, defers := [] }
      ((((((((((W.setCell ⟨B, 0, none⟩ (.int .i64 x.kind)).setCell ⟨B, 1, none⟩ (.int .i64 x.g)).setCell ⟨B, 2, none⟩ (.int .i64 x.ch)).setCell ⟨B, 3, none⟩ (.int .i64 x.cs)).setCell ⟨B, 4, none⟩ (.int .i64 x.va)).setCell ⟨B, 5, none⟩ (.int .i64 x.ma)).setCell ⟨B, 6, none⟩ (.bool x.sd)).setCell ⟨B, 7, none⟩ (.bool x.ok)).setCell ⟨B, 8, none⟩ (.int .i64 z))) := by
  obtain ⟨V, hV⟩ : ∃ V, (((((((((W.setCell ⟨B, 0, none⟩ (.int .i64 x.kind)).setCell ⟨B, 1, none⟩ (.int .i64 x.g)).setCell ⟨B, 2, none⟩ (.int .i64 x.ch)).setCell ⟨B, 3, none⟩ (.int .i64 x.cs)).setCell ⟨B, 4, none⟩ (.int .i64 x.va)).setCell ⟨B, 5, none⟩ (.int .i64 x.ma)).setCell ⟨B, 6, none⟩ (.bool x.sd)).setCell ⟨B, 7, none⟩ (.bool x.ok)).setCell ⟨B, 8, none⟩ (.int .i64 z)) = V := ⟨_, rfl⟩
  have hc : V.heap[B]? = some (Obj.cells #[.int .i64 x.kind, .int .i64 x.g, .int .i64 x.ch, .int .i64 x.cs, .int .i64 x.va, .int .i64 x.ma, .bool x.sd, .bool x.ok, .int .i64 z] 36 (0, 0)) := by
    rw [← hV]
    have h0 := heap_setCell_same _ _ 0 _ _ (.int .i64 x.kind) h
    have h1 := heap_setCell_same _ _ 1 _ _ (.int .i64 x.g) h0
    have h2 := heap_setCell_same _ _ 2 _ _ (.int .i64 x.ch) h1
    have h3 := heap_setCell_same _ _ 3 _ _ (.int .i64 x.cs) h2
    have h4 := heap_setCell_same _ _ 4 _ _ (.int .i64 x.va) h3
    have h5 := heap_setCell_same _ _ 5 _ _ (.int .i64 x.ma) h4
    have h6 := heap_setCell_same _ _ 6 _ _ (.bool x.sd) h5
    have h7 := heap_setCell_same _ _ 7 _ _ (.bool x.ok) h6
    have h8 := heap_setCell_same _ _ 8 _ _ (.int .i64 z) h7
    rw [h8]
    simp
  have hb : Below w.heap.size w V := by
    rw [← hV]
    exact ((((((((hB.setCell hle _).setCell hle _).setCell hle _).setCell hle _).setCell hle _).setCell hle _).setCell hle _).setCell hle _).setCell hle _
  rw [hV]
  clear hV
  obtain ⟨z0, z1, z2, z3, z4, z5, z6, z7, z8⟩ := nine_cells hc
  have ht' : tmps[2]?.getD undef = .pointer (some ⟨B, 0, none⟩) := by simpa using ht
  refine bodyPost_ret (v := .tuple #[gotV x z, tmps.getD 3 undef]) ?_ rfl ⟨by rw [hr], hb⟩
  simp [results, Tryd.results15, ht', asAddr, go_sem, z0, z1, z2, z3, z4, z5, z6, z7, z8, gotV]

theorem rdec_end2 {w W : World} {B : Nat} {x y : Ev} {z u : Int} {tmps : Array Value} {rr : Value} {o : Obj} (h : W.heap[B]? = some (Obj.cells #[.int .i64 y.kind, .int .i64 y.g, .int .i64 y.ch, .int .i64 y.cs, .int .i64 y.va, .int .i64 y.ma, .bool y.sd, .bool y.ok, .int .i64 u] 36 (0, 0))) (hB : Below w.heap.size w W) (hle : w.heap.size ≤ B)
    (ht : tmps.getD 2 undef = .pointer (some ⟨B, 0, none⟩)) (hr : rr = .tuple #[gotV x z, tmps.getD 3 undef]) :
    bodyPost Tryd.prog Tryd.f15 (fun r w' => r = Ending.returned rr ∧ Below w.heap.size w w') Exit.ret { tmps := tmps, defers := [] }
      (((((((((((W.setCell ⟨B, 0, none⟩ (.int .i64 x.kind)).setCell ⟨B, 1, none⟩ (.int .i64 x.g)).setCell ⟨B, 2, none⟩ (.int .i64 x.ch)).setCell ⟨B, 3, none⟩ (.int .i64 x.cs)).setCell ⟨B, 4, none⟩ (.int .i64 x.va)).setCell ⟨B, 5, none⟩ (.int .i64 x.ma)).setCell ⟨B, 6, none⟩ (.bool x.sd)).setCell ⟨B, 7, none⟩ (.bool x.ok)).setCell ⟨B, 8, none⟩ (.int .i64 z))).alloc o) := by
  obtain ⟨V, hV⟩ : ∃ V, (((((((((W.setCell ⟨B, 0, none⟩ (.int .i64 x.kind)).setCell ⟨B, 1, none⟩ (.int .i64 x.g)).setCell ⟨B, 2, none⟩ (.int .i64 x.ch)).setCell ⟨B, 3, none⟩ (.int .i64 x.cs)).setCell ⟨B, 4, none⟩ (.int .i64 x.va)).setCell ⟨B, 5, none⟩ (.int .i64 x.ma)).setCell ⟨B, 6, none⟩ (.bool x.sd)).setCell ⟨B, 7, none⟩ (.bool x.ok)).setCell ⟨B, 8, none⟩ (.int .i64 z)) = V := ⟨_, rfl⟩
  have hc : V.heap[B]? = some (Obj.cells #[.int .i64 x.kind, .int .i64 x.g, .int .i64 x.ch, .int .i64 x.cs, .int .i64 x.va, .int .i64 x.ma, .bool x.sd, .bool x.ok, .int .i64 z] 36 (0, 0)) := by
    rw [← hV]
    have h0 := heap_setCell_same _ _ 0 _ _ (.int .i64 x.kind) h
    have h1 := heap_setCell_same _ _ 1 _ _ (.int .i64 x.g) h0
    have h2 := heap_setCell_same _ _ 2 _ _ (.int .i64 x.ch) h1
    have h3 := heap_setCell_same _ _ 3 _ _ (.int .i64 x.cs) h2
    have h4 := heap_setCell_same _ _ 4 _ _ (.int .i64 x.va) h3
    have h5 := heap_setCell_same _ _ 5 _ _ (.int .i64 x.ma) h4
    have h6 := heap_setCell_same _ _ 6 _ _ (.bool x.sd) h5
    have h7 := heap_setCell_same _ _ 7 _ _ (.bool x.ok) h6
    have h8 := heap_setCell_same _ _ 8 _ _ (.int .i64 z) h7
    rw [h8]
    simp
  have hb : Below w.heap.size w V := by
    rw [← hV]
    exact ((((((((hB.setCell hle _).setCell hle _).setCell hle _).setCell hle _).setCell hle _).setCell hle _).setCell hle _).setCell hle _).setCell hle _
  rw [hV]
  clear hV
  have hc : (V.alloc o).heap[B]? = some (Obj.cells #[.int .i64 x.kind, .int .i64 x.g, .int .i64 x.ch, .int .i64 x.cs, .int .i64 x.va, .int .i64 x.ma, .bool x.sd, .bool x.ok, .int .i64 z] 36 (0, 0)) := by
    rw [heap_alloc_old _ _ (lt_of_heap hc)]; exact hc
  have hb : Below w.heap.size w (V.alloc o) := hb.alloc hb.size _
  obtain ⟨U, hU⟩ : ∃ U, V.alloc o = U := ⟨_, rfl⟩
  rw [hU] at hc hb ⊢
  obtain ⟨z0, z1, z2, z3, z4, z5, z6, z7, z8⟩ := nine_cells hc
  have ht' : tmps[2]?.getD undef = .pointer (some ⟨B, 0, none⟩) := by simpa using ht
  refine bodyPost_ret (v := .tuple #[gotV x z, tmps.getD 3 undef]) ?_ rfl ⟨by rw [hr], hb⟩
  simp [results, Tryd.results15, ht', asAddr, go_sem, z0, z1, z2, z3, z4, z5, z6, z7, z8, gotV]

set_option maxHeartbeats 4000000 in
theorem rdecode_any (l : List UInt8) (w : World) (hl : l.length ≤ 140737488351232) : Calls Tryd.prog 15 #[bs l] w fun r w' => r = .returned (.tuple #[gotV (decE l) (gotS l), .int .i64 (decF l)]) ∧ Below w.heap.size w w' := by
  have T : ∀ j, Hid (∀ W, Calls Tryd.prog 30 #[bs (rst l j)] W fun e w' => e = .returned (.tuple #[.agg #[.int .i64 (num l j), .int .i64 (takZ (rst l j))], .int .i64 (takE (rst l j))]) ∧ Below W.heap.size W w') := fun j => Lib.hid (fun W => ref_take_any (rst l j) W (Nat.le_trans (rst_len l j) hl))
  obtain ⟨rr, hrr⟩ : ∃ r, (Value.tuple #[gotV (decE l) (gotS l), .int .i64 (decF l)]) = r := ⟨_, rfl⟩
  have RR := Lib.hid hrr
  rw [hrr]
  have NB : Hid (decB l = false → rr = .tuple #[gotV zeroEv 0, .int .i64 4]) := Lib.hid (fun h => by
    obtain ⟨e1, e2, e3⟩ := decF_no h
    rw [← RR.out, e1, e3]
    simp [gotS, h])
  have NO : Hid (∀ j, j < 7 → takE (rst l j) = 4 → rr = .tuple #[gotV zeroEv 0, .int .i64 4]) := Lib.hid (fun j hj h => NB.out (decB_no j hj h))
  have HL := Lib.hid hl
  clear hl hrr
  have D0 : RDS l 0 w.heap.size w ((w.alloc (Obj.cells #[.int .i64 0, .int .i64 0, .int .i64 0, .int .i64 0, .int .i64 0, .int .i64 0, .bool false, .bool false, .int .i64 0] 36)).alloc (Obj.cells (nums l 0) 68)) :=
    ⟨by rw [heap_alloc_old _ _ (by simp)]; exact heap_alloc_new _ _, by have h := heap_alloc_new (w.alloc (Obj.cells #[.int .i64 0, .int .i64 0, .int .i64 0, .int .i64 0, .int .i64 0, .int .i64 0, .bool false, .bool false, .int .i64 0] 36)) (Obj.cells (nums l 0) 68); rwa [World.size_alloc] at h, (below1 _ _).alloc (by simp) _⟩
  have D1 := Lib.hid D0
  clear D0
  go_enter Tryd.func15, Tryd.ntmps15
  go_wp2_with fail
  go_loopw [5, 6] (fun at' i wr => ∃ j : Nat, j ≤ 7 ∧ i = .int .i64 j ∧ at' = .int .i64 (szN l j) ∧ okJ l j = true ∧ RDS l j w.heap.size w wr) (fun _ i _ => 7 - (intOf i).toNat)
  case atStart => exact ⟨0, by omega, rfl, rfl, rfl, D1.out⟩
  case round =>
    obtain ⟨j, hj, rfl, rfl, hok, hD⟩ := hrel
    have OK := Lib.hid hok
    have DR := Lib.hid hD
    have ha := szN_bd l j
    obtain ⟨hrs, hal⟩ := sz_drop l j hok
    have hl := HL.out
    obtain ⟨a, hA⟩ : ∃ a, szN l j = a := ⟨_, rfl⟩
    rw [hA] at ha hrs hal ⊢
    have HA := Lib.hid hA
    have HR := Lib.hid hrs
    clear hok hD hA hrs
    have hj' : j = 0 ∨ j = 1 ∨ j = 2 ∨ j = 3 ∨ j = 4 ∨ j = 5 ∨ j = 6 ∨ j = 7 := by omega
    rcases hj' with rfl | rfl | rfl | rfl | rfl | rfl | rfl | rfl
    · rw [show ((0 : Nat) : Int) = 0 from rfl]
      obtain ⟨z0, z1, z2, z3, z4, z5, z6⟩ := seven_cells (show wr.heap[w.heap.size + 1]? = some (Obj.cells #[.int .i64 0, .int .i64 0, .int .i64 0, .int .i64 0, .int .i64 0, .int .i64 0, .int .i64 0] 68 (0, 0)) from DR.out.n)
      obtain ⟨q0, q1, q2, q3, q4, q5, q6, q7, q8⟩ := nine_cells (show wr.heap[w.heap.size]? = some (Obj.cells #[.int .i64 0, .int .i64 0, .int .i64 0, .int .i64 0, .int .i64 0, .int .i64 0, .bool false, .bool false, .int .i64 0] 36 (0, 0)) from DR.out.z)
      have fz1 : ∀ o, wr.frozen? ⟨w.heap.size + 1, o, none⟩ = false := fun o => frozen_of_row _ _ o _ _ DR.out.n
      have fz0 : ∀ o, wr.frozen? ⟨w.heap.size, o, none⟩ = false := fun o => frozen_of_row _ _ o _ _ DR.out.z
      obtain ⟨ee, hee⟩ : ∃ x, takE (rst l 0) = x := ⟨_, rfl⟩
      obtain ⟨zz, hzz⟩ : ∃ x, takZ (rst l 0) = x := ⟨_, rfl⟩
      have heo := takE_or (rst l 0)
      have hzo := takZ_bd (rst l 0)
      have T4 := (T 0).out
      rw [hee, hzz, HR.out] at T4
      rw [hee] at heo
      rw [hzz] at hzo
      have TT := Lib.hid T4
      have EE := Lib.hid hee
      have ZZ := Lib.hid hzz
      clear T4 hee hzz
      clear z0 z1 z2 z3 z4 z5 z6 q0 q1 q2 q3 q4 q5 q6 q7 q8 fz1 fz0
      go_wp2_with fail
      refine (TT.out _).mono ?_
      rintro r w4 ⟨rfl, hB4⟩
      have D4 := Lib.hid (DR.out.below hB4)
      clear hB4
      obtain ⟨b0, b1⟩ := num_bd l 0
      obtain ⟨c0, c1⟩ := hzo
      have AN := Lib.hid (show ((szN l 1 : Nat) : Int) = (a : Int) + zz by rw [show szN l 1 = szN l 0 + (takZ (rst l 0)).toNat from rfl, HA.out, ZZ.out]; omega)
      obtain ⟨z0, z1, z2, z3, z4, z5, z6⟩ := seven_cells (show w4.heap[w.heap.size + 1]? = some (Obj.cells #[.int .i64 0, .int .i64 0, .int .i64 0, .int .i64 0, .int .i64 0, .int .i64 0, .int .i64 0] 68 (0, 0)) from D4.out.n)
      obtain ⟨q0, q1, q2, q3, q4, q5, q6, q7, q8⟩ := nine_cells (show w4.heap[w.heap.size]? = some (Obj.cells #[.int .i64 0, .int .i64 0, .int .i64 0, .int .i64 0, .int .i64 0, .int .i64 0, .bool false, .bool false, .int .i64 0] 36 (0, 0)) from D4.out.z)
      have fz1 : ∀ o, w4.frozen? ⟨w.heap.size + 1, o, none⟩ = false := fun o => frozen_of_row _ _ o _ _ D4.out.n
      have fz0 : ∀ o, w4.frozen? ⟨w.heap.size, o, none⟩ = false := fun o => frozen_of_row _ _ o _ _ D4.out.z
      have sz1 : w.heap.size < w4.heap.size := lt_of_heap D4.out.z
      have sz2 : w.heap.size + 1 < w4.heap.size := lt_of_heap D4.out.n
      rcases heo with rfl | rfl
      · have OK2 := Lib.hid (show okJ l 1 = true by rw [okJ, OK.out, EE.out]; rfl)
        go_wp2_with fail
        go_roundw
        case rel => exact ⟨1, by omega, by go_num, by rw [AN.out], OK2.out, (D4.out.set (Nat.le_refl _) 0 1 _ rfl).below (below1 _ _)⟩
        case measure => simp [intOf]
      · have N := Lib.hid (NO.out 0 (by omega) EE.out)
        go_wp2_with fail
        exact rdec_end2 (x := zeroEv) (z := 0) (y := zeroEv) (u := 0) D4.out.z D4.out.bel (Nat.le_refl _) rfl N.out
    · rw [show ((1 : Nat) : Int) = 1 from rfl]
      obtain ⟨z0, z1, z2, z3, z4, z5, z6⟩ := seven_cells (show wr.heap[w.heap.size + 1]? = some (Obj.cells #[.int .i64 (num l 0), .int .i64 0, .int .i64 0, .int .i64 0, .int .i64 0, .int .i64 0, .int .i64 0] 68 (0, 0)) from DR.out.n)
      obtain ⟨q0, q1, q2, q3, q4, q5, q6, q7, q8⟩ := nine_cells (show wr.heap[w.heap.size]? = some (Obj.cells #[.int .i64 0, .int .i64 0, .int .i64 0, .int .i64 0, .int .i64 0, .int .i64 0, .bool false, .bool false, .int .i64 0] 36 (0, 0)) from DR.out.z)
      have fz1 : ∀ o, wr.frozen? ⟨w.heap.size + 1, o, none⟩ = false := fun o => frozen_of_row _ _ o _ _ DR.out.n
      have fz0 : ∀ o, wr.frozen? ⟨w.heap.size, o, none⟩ = false := fun o => frozen_of_row _ _ o _ _ DR.out.z
      obtain ⟨ee, hee⟩ : ∃ x, takE (rst l 1) = x := ⟨_, rfl⟩
      obtain ⟨zz, hzz⟩ : ∃ x, takZ (rst l 1) = x := ⟨_, rfl⟩
      have heo := takE_or (rst l 1)
      have hzo := takZ_bd (rst l 1)
      have T4 := (T 1).out
      rw [hee, hzz, HR.out] at T4
      rw [hee] at heo
      rw [hzz] at hzo
      have TT := Lib.hid T4
      have EE := Lib.hid hee
      have ZZ := Lib.hid hzz
      clear T4 hee hzz
      clear z0 z1 z2 z3 z4 z5 z6 q0 q1 q2 q3 q4 q5 q6 q7 q8 fz1 fz0
      go_wp2_with fail
      refine (TT.out _).mono ?_
      rintro r w4 ⟨rfl, hB4⟩
      have D4 := Lib.hid (DR.out.below hB4)
      clear hB4
      obtain ⟨b0, b1⟩ := num_bd l 1
      obtain ⟨c0, c1⟩ := hzo
      have AN := Lib.hid (show ((szN l 2 : Nat) : Int) = (a : Int) + zz by rw [show szN l 2 = szN l 1 + (takZ (rst l 1)).toNat from rfl, HA.out, ZZ.out]; omega)
      obtain ⟨z0, z1, z2, z3, z4, z5, z6⟩ := seven_cells (show w4.heap[w.heap.size + 1]? = some (Obj.cells #[.int .i64 (num l 0), .int .i64 0, .int .i64 0, .int .i64 0, .int .i64 0, .int .i64 0, .int .i64 0] 68 (0, 0)) from D4.out.n)
      obtain ⟨q0, q1, q2, q3, q4, q5, q6, q7, q8⟩ := nine_cells (show w4.heap[w.heap.size]? = some (Obj.cells #[.int .i64 0, .int .i64 0, .int .i64 0, .int .i64 0, .int .i64 0, .int .i64 0, .bool false, .bool false, .int .i64 0] 36 (0, 0)) from D4.out.z)
      have fz1 : ∀ o, w4.frozen? ⟨w.heap.size + 1, o, none⟩ = false := fun o => frozen_of_row _ _ o _ _ D4.out.n
      have fz0 : ∀ o, w4.frozen? ⟨w.heap.size, o, none⟩ = false := fun o => frozen_of_row _ _ o _ _ D4.out.z
      have sz1 : w.heap.size < w4.heap.size := lt_of_heap D4.out.z
      have sz2 : w.heap.size + 1 < w4.heap.size := lt_of_heap D4.out.n
      rcases heo with rfl | rfl
      · have OK2 := Lib.hid (show okJ l 2 = true by rw [okJ, OK.out, EE.out]; rfl)
        go_wp2_with fail
        go_roundw
        case rel => exact ⟨2, by omega, by go_num, by rw [AN.out], OK2.out, (D4.out.set (Nat.le_refl _) 1 2 _ rfl).below (below1 _ _)⟩
        case measure => simp [intOf]
      · have N := Lib.hid (NO.out 1 (by omega) EE.out)
        go_wp2_with fail
        exact rdec_end2 (x := zeroEv) (z := 0) (y := zeroEv) (u := 0) D4.out.z D4.out.bel (Nat.le_refl _) rfl N.out
    · rw [show ((2 : Nat) : Int) = 2 from rfl]
      obtain ⟨z0, z1, z2, z3, z4, z5, z6⟩ := seven_cells (show wr.heap[w.heap.size + 1]? = some (Obj.cells #[.int .i64 (num l 0), .int .i64 (num l 1), .int .i64 0, .int .i64 0, .int .i64 0, .int .i64 0, .int .i64 0] 68 (0, 0)) from DR.out.n)
      obtain ⟨q0, q1, q2, q3, q4, q5, q6, q7, q8⟩ := nine_cells (show wr.heap[w.heap.size]? = some (Obj.cells #[.int .i64 0, .int .i64 0, .int .i64 0, .int .i64 0, .int .i64 0, .int .i64 0, .bool false, .bool false, .int .i64 0] 36 (0, 0)) from DR.out.z)
      have fz1 : ∀ o, wr.frozen? ⟨w.heap.size + 1, o, none⟩ = false := fun o => frozen_of_row _ _ o _ _ DR.out.n
      have fz0 : ∀ o, wr.frozen? ⟨w.heap.size, o, none⟩ = false := fun o => frozen_of_row _ _ o _ _ DR.out.z
      obtain ⟨ee, hee⟩ : ∃ x, takE (rst l 2) = x := ⟨_, rfl⟩
      obtain ⟨zz, hzz⟩ : ∃ x, takZ (rst l 2) = x := ⟨_, rfl⟩
      have heo := takE_or (rst l 2)
      have hzo := takZ_bd (rst l 2)
      have T4 := (T 2).out
      rw [hee, hzz, HR.out] at T4
      rw [hee] at heo
      rw [hzz] at hzo
      have TT := Lib.hid T4
      have EE := Lib.hid hee
      have ZZ := Lib.hid hzz
      clear T4 hee hzz
      clear z0 z1 z2 z3 z4 z5 z6 q0 q1 q2 q3 q4 q5 q6 q7 q8 fz1 fz0
      go_wp2_with fail
      refine (TT.out _).mono ?_
      rintro r w4 ⟨rfl, hB4⟩
      have D4 := Lib.hid (DR.out.below hB4)
      clear hB4
      obtain ⟨b0, b1⟩ := num_bd l 2
      obtain ⟨c0, c1⟩ := hzo
      have AN := Lib.hid (show ((szN l 3 : Nat) : Int) = (a : Int) + zz by rw [show szN l 3 = szN l 2 + (takZ (rst l 2)).toNat from rfl, HA.out, ZZ.out]; omega)
      obtain ⟨z0, z1, z2, z3, z4, z5, z6⟩ := seven_cells (show w4.heap[w.heap.size + 1]? = some (Obj.cells #[.int .i64 (num l 0), .int .i64 (num l 1), .int .i64 0, .int .i64 0, .int .i64 0, .int .i64 0, .int .i64 0] 68 (0, 0)) from D4.out.n)
      obtain ⟨q0, q1, q2, q3, q4, q5, q6, q7, q8⟩ := nine_cells (show w4.heap[w.heap.size]? = some (Obj.cells #[.int .i64 0, .int .i64 0, .int .i64 0, .int .i64 0, .int .i64 0, .int .i64 0, .bool false, .bool false, .int .i64 0] 36 (0, 0)) from D4.out.z)
      have fz1 : ∀ o, w4.frozen? ⟨w.heap.size + 1, o, none⟩ = false := fun o => frozen_of_row _ _ o _ _ D4.out.n
      have fz0 : ∀ o, w4.frozen? ⟨w.heap.size, o, none⟩ = false := fun o => frozen_of_row _ _ o _ _ D4.out.z
      have sz1 : w.heap.size < w4.heap.size := lt_of_heap D4.out.z
      have sz2 : w.heap.size + 1 < w4.heap.size := lt_of_heap D4.out.n
      rcases heo with rfl | rfl
      · have OK2 := Lib.hid (show okJ l 3 = true by rw [okJ, OK.out, EE.out]; rfl)
        go_wp2_with fail
        go_roundw
        case rel => exact ⟨3, by omega, by go_num, by rw [AN.out], OK2.out, (D4.out.set (Nat.le_refl _) 2 3 _ rfl).below (below1 _ _)⟩
        case measure => simp [intOf]
      · have N := Lib.hid (NO.out 2 (by omega) EE.out)
        go_wp2_with fail
        exact rdec_end2 (x := zeroEv) (z := 0) (y := zeroEv) (u := 0) D4.out.z D4.out.bel (Nat.le_refl _) rfl N.out
    · rw [show ((3 : Nat) : Int) = 3 from rfl]
      obtain ⟨z0, z1, z2, z3, z4, z5, z6⟩ := seven_cells (show wr.heap[w.heap.size + 1]? = some (Obj.cells #[.int .i64 (num l 0), .int .i64 (num l 1), .int .i64 (num l 2), .int .i64 0, .int .i64 0, .int .i64 0, .int .i64 0] 68 (0, 0)) from DR.out.n)
      obtain ⟨q0, q1, q2, q3, q4, q5, q6, q7, q8⟩ := nine_cells (show wr.heap[w.heap.size]? = some (Obj.cells #[.int .i64 0, .int .i64 0, .int .i64 0, .int .i64 0, .int .i64 0, .int .i64 0, .bool false, .bool false, .int .i64 0] 36 (0, 0)) from DR.out.z)
      have fz1 : ∀ o, wr.frozen? ⟨w.heap.size + 1, o, none⟩ = false := fun o => frozen_of_row _ _ o _ _ DR.out.n
      have fz0 : ∀ o, wr.frozen? ⟨w.heap.size, o, none⟩ = false := fun o => frozen_of_row _ _ o _ _ DR.out.z
      obtain ⟨ee, hee⟩ : ∃ x, takE (rst l 3) = x := ⟨_, rfl⟩
      obtain ⟨zz, hzz⟩ : ∃ x, takZ (rst l 3) = x := ⟨_, rfl⟩
      have heo := takE_or (rst l 3)
      have hzo := takZ_bd (rst l 3)
      have T4 := (T 3).out
      rw [hee, hzz, HR.out] at T4
      rw [hee] at heo
      rw [hzz] at hzo
      have TT := Lib.hid T4
      have EE := Lib.hid hee
      have ZZ := Lib.hid hzz
      clear T4 hee hzz
      clear z0 z1 z2 z3 z4 z5 z6 q0 q1 q2 q3 q4 q5 q6 q7 q8 fz1 fz0
      go_wp2_with fail
      refine (TT.out _).mono ?_
      rintro r w4 ⟨rfl, hB4⟩
      have D4 := Lib.hid (DR.out.below hB4)
      clear hB4
      obtain ⟨b0, b1⟩ := num_bd l 3
      obtain ⟨c0, c1⟩ := hzo
      have AN := Lib.hid (show ((szN l 4 : Nat) : Int) = (a : Int) + zz by rw [show szN l 4 = szN l 3 + (takZ (rst l 3)).toNat from rfl, HA.out, ZZ.out]; omega)
      obtain ⟨z0, z1, z2, z3, z4, z5, z6⟩ := seven_cells (show w4.heap[w.heap.size + 1]? = some (Obj.cells #[.int .i64 (num l 0), .int .i64 (num l 1), .int .i64 (num l 2), .int .i64 0, .int .i64 0, .int .i64 0, .int .i64 0] 68 (0, 0)) from D4.out.n)
      obtain ⟨q0, q1, q2, q3, q4, q5, q6, q7, q8⟩ := nine_cells (show w4.heap[w.heap.size]? = some (Obj.cells #[.int .i64 0, .int .i64 0, .int .i64 0, .int .i64 0, .int .i64 0, .int .i64 0, .bool false, .bool false, .int .i64 0] 36 (0, 0)) from D4.out.z)
      have fz1 : ∀ o, w4.frozen? ⟨w.heap.size + 1, o, none⟩ = false := fun o => frozen_of_row _ _ o _ _ D4.out.n
      have fz0 : ∀ o, w4.frozen? ⟨w.heap.size, o, none⟩ = false := fun o => frozen_of_row _ _ o _ _ D4.out.z
      have sz1 : w.heap.size < w4.heap.size := lt_of_heap D4.out.z
      have sz2 : w.heap.size + 1 < w4.heap.size := lt_of_heap D4.out.n
      rcases heo with rfl | rfl
      · have OK2 := Lib.hid (show okJ l 4 = true by rw [okJ, OK.out, EE.out]; rfl)
        go_wp2_with fail
        go_roundw
        case rel => exact ⟨4, by omega, by go_num, by rw [AN.out], OK2.out, (D4.out.set (Nat.le_refl _) 3 4 _ rfl).below (below1 _ _)⟩
        case measure => simp [intOf]
      · have N := Lib.hid (NO.out 3 (by omega) EE.out)
        go_wp2_with fail
        exact rdec_end2 (x := zeroEv) (z := 0) (y := zeroEv) (u := 0) D4.out.z D4.out.bel (Nat.le_refl _) rfl N.out
    · rw [show ((4 : Nat) : Int) = 4 from rfl]
      obtain ⟨z0, z1, z2, z3, z4, z5, z6⟩ := seven_cells (show wr.heap[w.heap.size + 1]? = some (Obj.cells #[.int .i64 (num l 0), .int .i64 (num l 1), .int .i64 (num l 2), .int .i64 (num l 3), .int .i64 0, .int .i64 0, .int .i64 0] 68 (0, 0)) from DR.out.n)
      obtain ⟨q0, q1, q2, q3, q4, q5, q6, q7, q8⟩ := nine_cells (show wr.heap[w.heap.size]? = some (Obj.cells #[.int .i64 0, .int .i64 0, .int .i64 0, .int .i64 0, .int .i64 0, .int .i64 0, .bool false, .bool false, .int .i64 0] 36 (0, 0)) from DR.out.z)
      have fz1 : ∀ o, wr.frozen? ⟨w.heap.size + 1, o, none⟩ = false := fun o => frozen_of_row _ _ o _ _ DR.out.n
      have fz0 : ∀ o, wr.frozen? ⟨w.heap.size, o, none⟩ = false := fun o => frozen_of_row _ _ o _ _ DR.out.z
      obtain ⟨ee, hee⟩ : ∃ x, takE (rst l 4) = x := ⟨_, rfl⟩
      obtain ⟨zz, hzz⟩ : ∃ x, takZ (rst l 4) = x := ⟨_, rfl⟩
      have heo := takE_or (rst l 4)
      have hzo := takZ_bd (rst l 4)
      have T4 := (T 4).out
      rw [hee, hzz, HR.out] at T4
      rw [hee] at heo
      rw [hzz] at hzo
      have TT := Lib.hid T4
      have EE := Lib.hid hee
      have ZZ := Lib.hid hzz
      clear T4 hee hzz
      clear z0 z1 z2 z3 z4 z5 z6 q0 q1 q2 q3 q4 q5 q6 q7 q8 fz1 fz0
      go_wp2_with fail
      refine (TT.out _).mono ?_
      rintro r w4 ⟨rfl, hB4⟩
      have D4 := Lib.hid (DR.out.below hB4)
      clear hB4
      obtain ⟨b0, b1⟩ := num_bd l 4
      obtain ⟨c0, c1⟩ := hzo
      have AN := Lib.hid (show ((szN l 5 : Nat) : Int) = (a : Int) + zz by rw [show szN l 5 = szN l 4 + (takZ (rst l 4)).toNat from rfl, HA.out, ZZ.out]; omega)
      obtain ⟨z0, z1, z2, z3, z4, z5, z6⟩ := seven_cells (show w4.heap[w.heap.size + 1]? = some (Obj.cells #[.int .i64 (num l 0), .int .i64 (num l 1), .int .i64 (num l 2), .int .i64 (num l 3), .int .i64 0, .int .i64 0, .int .i64 0] 68 (0, 0)) from D4.out.n)
      obtain ⟨q0, q1, q2, q3, q4, q5, q6, q7, q8⟩ := nine_cells (show w4.heap[w.heap.size]? = some (Obj.cells #[.int .i64 0, .int .i64 0, .int .i64 0, .int .i64 0, .int .i64 0, .int .i64 0, .bool false, .bool false, .int .i64 0] 36 (0, 0)) from D4.out.z)
      have fz1 : ∀ o, w4.frozen? ⟨w.heap.size + 1, o, none⟩ = false := fun o => frozen_of_row _ _ o _ _ D4.out.n
      have fz0 : ∀ o, w4.frozen? ⟨w.heap.size, o, none⟩ = false := fun o => frozen_of_row _ _ o _ _ D4.out.z
      have sz1 : w.heap.size < w4.heap.size := lt_of_heap D4.out.z
      have sz2 : w.heap.size + 1 < w4.heap.size := lt_of_heap D4.out.n
      rcases heo with rfl | rfl
      · have OK2 := Lib.hid (show okJ l 5 = true by rw [okJ, OK.out, EE.out]; rfl)
        go_wp2_with fail
        go_roundw
        case rel => exact ⟨5, by omega, by go_num, by rw [AN.out], OK2.out, (D4.out.set (Nat.le_refl _) 4 5 _ rfl).below (below1 _ _)⟩
        case measure => simp [intOf]
      · have N := Lib.hid (NO.out 4 (by omega) EE.out)
        go_wp2_with fail
        exact rdec_end2 (x := zeroEv) (z := 0) (y := zeroEv) (u := 0) D4.out.z D4.out.bel (Nat.le_refl _) rfl N.out
    · rw [show ((5 : Nat) : Int) = 5 from rfl]
      obtain ⟨z0, z1, z2, z3, z4, z5, z6⟩ := seven_cells (show wr.heap[w.heap.size + 1]? = some (Obj.cells #[.int .i64 (num l 0), .int .i64 (num l 1), .int .i64 (num l 2), .int .i64 (num l 3), .int .i64 (num l 4), .int .i64 0, .int .i64 0] 68 (0, 0)) from DR.out.n)
      obtain ⟨q0, q1, q2, q3, q4, q5, q6, q7, q8⟩ := nine_cells (show wr.heap[w.heap.size]? = some (Obj.cells #[.int .i64 0, .int .i64 0, .int .i64 0, .int .i64 0, .int .i64 0, .int .i64 0, .bool false, .bool false, .int .i64 0] 36 (0, 0)) from DR.out.z)
      have fz1 : ∀ o, wr.frozen? ⟨w.heap.size + 1, o, none⟩ = false := fun o => frozen_of_row _ _ o _ _ DR.out.n
      have fz0 : ∀ o, wr.frozen? ⟨w.heap.size, o, none⟩ = false := fun o => frozen_of_row _ _ o _ _ DR.out.z
      obtain ⟨ee, hee⟩ : ∃ x, takE (rst l 5) = x := ⟨_, rfl⟩
      obtain ⟨zz, hzz⟩ : ∃ x, takZ (rst l 5) = x := ⟨_, rfl⟩
      have heo := takE_or (rst l 5)
      have hzo := takZ_bd (rst l 5)
      have T4 := (T 5).out
      rw [hee, hzz, HR.out] at T4
      rw [hee] at heo
      rw [hzz] at hzo
      have TT := Lib.hid T4
      have EE := Lib.hid hee
      have ZZ := Lib.hid hzz
      clear T4 hee hzz
      clear z0 z1 z2 z3 z4 z5 z6 q0 q1 q2 q3 q4 q5 q6 q7 q8 fz1 fz0
      go_wp2_with fail
      refine (TT.out _).mono ?_
      rintro r w4 ⟨rfl, hB4⟩
      have D4 := Lib.hid (DR.out.below hB4)
      clear hB4
      obtain ⟨b0, b1⟩ := num_bd l 5
      obtain ⟨c0, c1⟩ := hzo
      have AN := Lib.hid (show ((szN l 6 : Nat) : Int) = (a : Int) + zz by rw [show szN l 6 = szN l 5 + (takZ (rst l 5)).toNat from rfl, HA.out, ZZ.out]; omega)
      obtain ⟨z0, z1, z2, z3, z4, z5, z6⟩ := seven_cells (show w4.heap[w.heap.size + 1]? = some (Obj.cells #[.int .i64 (num l 0), .int .i64 (num l 1), .int .i64 (num l 2), .int .i64 (num l 3), .int .i64 (num l 4), .int .i64 0, .int .i64 0] 68 (0, 0)) from D4.out.n)
      obtain ⟨q0, q1, q2, q3, q4, q5, q6, q7, q8⟩ := nine_cells (show w4.heap[w.heap.size]? = some (Obj.cells #[.int .i64 0, .int .i64 0, .int .i64 0, .int .i64 0, .int .i64 0, .int .i64 0, .bool false, .bool false, .int .i64 0] 36 (0, 0)) from D4.out.z)
      have fz1 : ∀ o, w4.frozen? ⟨w.heap.size + 1, o, none⟩ = false := fun o => frozen_of_row _ _ o _ _ D4.out.n
      have fz0 : ∀ o, w4.frozen? ⟨w.heap.size, o, none⟩ = false := fun o => frozen_of_row _ _ o _ _ D4.out.z
      have sz1 : w.heap.size < w4.heap.size := lt_of_heap D4.out.z
      have sz2 : w.heap.size + 1 < w4.heap.size := lt_of_heap D4.out.n
      rcases heo with rfl | rfl
      · have OK2 := Lib.hid (show okJ l 6 = true by rw [okJ, OK.out, EE.out]; rfl)
        go_wp2_with fail
        go_roundw
        case rel => exact ⟨6, by omega, by go_num, by rw [AN.out], OK2.out, (D4.out.set (Nat.le_refl _) 5 6 _ rfl).below (below1 _ _)⟩
        case measure => simp [intOf]
      · have N := Lib.hid (NO.out 5 (by omega) EE.out)
        go_wp2_with fail
        exact rdec_end2 (x := zeroEv) (z := 0) (y := zeroEv) (u := 0) D4.out.z D4.out.bel (Nat.le_refl _) rfl N.out
    · rw [show ((6 : Nat) : Int) = 6 from rfl]
      obtain ⟨z0, z1, z2, z3, z4, z5, z6⟩ := seven_cells (show wr.heap[w.heap.size + 1]? = some (Obj.cells #[.int .i64 (num l 0), .int .i64 (num l 1), .int .i64 (num l 2), .int .i64 (num l 3), .int .i64 (num l 4), .int .i64 (num l 5), .int .i64 0] 68 (0, 0)) from DR.out.n)
      obtain ⟨q0, q1, q2, q3, q4, q5, q6, q7, q8⟩ := nine_cells (show wr.heap[w.heap.size]? = some (Obj.cells #[.int .i64 0, .int .i64 0, .int .i64 0, .int .i64 0, .int .i64 0, .int .i64 0, .bool false, .bool false, .int .i64 0] 36 (0, 0)) from DR.out.z)
      have fz1 : ∀ o, wr.frozen? ⟨w.heap.size + 1, o, none⟩ = false := fun o => frozen_of_row _ _ o _ _ DR.out.n
      have fz0 : ∀ o, wr.frozen? ⟨w.heap.size, o, none⟩ = false := fun o => frozen_of_row _ _ o _ _ DR.out.z
      obtain ⟨ee, hee⟩ : ∃ x, takE (rst l 6) = x := ⟨_, rfl⟩
      obtain ⟨zz, hzz⟩ : ∃ x, takZ (rst l 6) = x := ⟨_, rfl⟩
      have heo := takE_or (rst l 6)
      have hzo := takZ_bd (rst l 6)
      have T4 := (T 6).out
      rw [hee, hzz, HR.out] at T4
      rw [hee] at heo
      rw [hzz] at hzo
      have TT := Lib.hid T4
      have EE := Lib.hid hee
      have ZZ := Lib.hid hzz
      clear T4 hee hzz
      clear z0 z1 z2 z3 z4 z5 z6 q0 q1 q2 q3 q4 q5 q6 q7 q8 fz1 fz0
      go_wp2_with fail
      refine (TT.out _).mono ?_
      rintro r w4 ⟨rfl, hB4⟩
      have D4 := Lib.hid (DR.out.below hB4)
      clear hB4
      obtain ⟨b0, b1⟩ := num_bd l 6
      obtain ⟨c0, c1⟩ := hzo
      have AN := Lib.hid (show ((szN l 7 : Nat) : Int) = (a : Int) + zz by rw [show szN l 7 = szN l 6 + (takZ (rst l 6)).toNat from rfl, HA.out, ZZ.out]; omega)
      obtain ⟨z0, z1, z2, z3, z4, z5, z6⟩ := seven_cells (show w4.heap[w.heap.size + 1]? = some (Obj.cells #[.int .i64 (num l 0), .int .i64 (num l 1), .int .i64 (num l 2), .int .i64 (num l 3), .int .i64 (num l 4), .int .i64 (num l 5), .int .i64 0] 68 (0, 0)) from D4.out.n)
      obtain ⟨q0, q1, q2, q3, q4, q5, q6, q7, q8⟩ := nine_cells (show w4.heap[w.heap.size]? = some (Obj.cells #[.int .i64 0, .int .i64 0, .int .i64 0, .int .i64 0, .int .i64 0, .int .i64 0, .bool false, .bool false, .int .i64 0] 36 (0, 0)) from D4.out.z)
      have fz1 : ∀ o, w4.frozen? ⟨w.heap.size + 1, o, none⟩ = false := fun o => frozen_of_row _ _ o _ _ D4.out.n
      have fz0 : ∀ o, w4.frozen? ⟨w.heap.size, o, none⟩ = false := fun o => frozen_of_row _ _ o _ _ D4.out.z
      have sz1 : w.heap.size < w4.heap.size := lt_of_heap D4.out.z
      have sz2 : w.heap.size + 1 < w4.heap.size := lt_of_heap D4.out.n
      rcases heo with rfl | rfl
      · have OK2 := Lib.hid (show okJ l 7 = true by rw [okJ, OK.out, EE.out]; rfl)
        go_wp2_with fail
        go_roundw
        case rel => exact ⟨7, by omega, by go_num, by rw [AN.out], OK2.out, (D4.out.set (Nat.le_refl _) 6 7 _ rfl).below (below1 _ _)⟩
        case measure => simp [intOf]
      · have N := Lib.hid (NO.out 6 (by omega) EE.out)
        go_wp2_with fail
        exact rdec_end2 (x := zeroEv) (z := 0) (y := zeroEv) (u := 0) D4.out.z D4.out.bel (Nat.le_refl _) rfl N.out
    · rw [show ((7 : Nat) : Int) = 7 from rfl]
      obtain ⟨z0, z1, z2, z3, z4, z5, z6⟩ := seven_cells (show wr.heap[w.heap.size + 1]? = some (Obj.cells #[.int .i64 (num l 0), .int .i64 (num l 1), .int .i64 (num l 2), .int .i64 (num l 3), .int .i64 (num l 4), .int .i64 (num l 5), .int .i64 (num l 6)] 68 (0, 0)) from DR.out.n)
      obtain ⟨q0, q1, q2, q3, q4, q5, q6, q7, q8⟩ := nine_cells (show wr.heap[w.heap.size]? = some (Obj.cells #[.int .i64 0, .int .i64 0, .int .i64 0, .int .i64 0, .int .i64 0, .int .i64 0, .bool false, .bool false, .int .i64 0] 36 (0, 0)) from DR.out.z)
      have fz1 : ∀ o, wr.frozen? ⟨w.heap.size + 1, o, none⟩ = false := fun o => frozen_of_row _ _ o _ _ DR.out.n
      have fz0 : ∀ o, wr.frozen? ⟨w.heap.size, o, none⟩ = false := fun o => frozen_of_row _ _ o _ _ DR.out.z
      obtain ⟨c0, c1⟩ := num_bd l 0
      obtain ⟨d0, d1⟩ := num_bd l 1
      obtain ⟨e0, e1⟩ := num_bd l 2
      obtain ⟨f0, f1⟩ := num_bd l 3
      obtain ⟨g0, g1⟩ := num_bd l 4
      obtain ⟨h0, h1⟩ := num_bd l 5
      obtain ⟨b0, b1⟩ := num_bd l 6
      have sz1 : w.heap.size < wr.heap.size := lt_of_heap DR.out.z
      have sz2 : w.heap.size + 1 < wr.heap.size := lt_of_heap DR.out.n
      have GS := Lib.hid (show decB l = true → gotS l = (a : Int) from fun h => by rw [← HA.out]; exact if_pos h)
      obtain ⟨m, hm⟩ : ∃ m, num l 6 = m := ⟨_, rfl⟩
      rw [hm] at b0 b1 z6
      have HM := Lib.hid hm
      have HE := Lib.hid (show evOf l = ⟨num l 0, num l 1 - 1, num l 2 - 1, num l 3 - 1, num l 4 - 1, num l 5 - 1, m1 m, m2 m⟩ by rw [← hm]; rfl)
      clear hm
      by_cases hm3 : 3 < m
      · have N := Lib.hid (NB.out (show decB l = false by unfold decB; rw [OK.out, HM.out, decide_eq_false (by omega : ¬ m ≤ 3)]; rfl))
        go_wp2_with fail
        exact rdec_end2 (x := zeroEv) (z := 0) (y := zeroEv) (u := 0) DR.out.z DR.out.bel (Nat.le_refl _) rfl N.out
      · have CK := fun W => Lib.hid (rcheck_any (evOf l) W)
        have hm4 : m ≤ 3 := by omega
        obtain ⟨c, hc⟩ : ∃ c, chk (evOf l) = c := ⟨_, rfl⟩
        have C := Lib.hid hc
        rw [hc] at CK
        have YES : Hid (c = 0 → rr = .tuple #[gotV (evOf l) (a : Int), .int .i64 0]) := Lib.hid (fun h => by
          have Y : decB l = true := by unfold decB; rw [OK.out, HM.out, decide_eq_true hm4, C.out, h]; rfl
          rw [← RR.out, GS.out Y]
          simp only [decE, decF, Y, if_true])
        have NOT : Hid ((c == 0) = false → rr = .tuple #[gotV zeroEv 0, .int .i64 4]) := Lib.hid (fun h => NB.out (by unfold decB; rw [C.out, h]; simp))
        have BD := DR.out.bel
        have hm5 : m = 0 ∨ m = 1 ∨ m = 2 ∨ m = 3 := by omega
        have SB := Lib.hid BD
        rw [HE.out] at CK YES
        unfold evV at CK
        dsimp only at CK
        clear hc b0 b1 hm3 hm4 BD
        rcases hm5 with rfl | rfl | rfl | rfl
        · rw [show m1 0 = false from rfl, show m2 0 = false from rfl] at CK YES
          have D5 := Lib.hid (DR.out.below (below1 wr (Obj.cells #[.int .i64 (num l 0), .int .i64 (num l 1 - 1), .int .i64 (num l 2 - 1), .int .i64 (num l 3 - 1), .int .i64 (num l 4 - 1), .int .i64 (num l 5 - 1), .bool false, .bool false] 23)))
          go_wp2_with fail
          refine ((CK _).out).mono ?_
          rintro r w5 ⟨rfl, hB5⟩
          have D6 := Lib.hid (D5.out.below hB5)
          have hev : w5.heap[wr.heap.size]? = some (Obj.cells #[.int .i64 (num l 0), .int .i64 (num l 1 - 1), .int .i64 (num l 2 - 1), .int .i64 (num l 3 - 1), .int .i64 (num l 4 - 1), .int .i64 (num l 5 - 1), .bool false, .bool false] 23 (0, 0)) := (hB5.block _ (by simp)).trans (heap_alloc_new _ _)
          clear hB5 q0 q1 q2 q3 q4 q5 q6 q7 q8 fz0 fz1 z0 z1 z2 z3 z4 z5 z6
          obtain ⟨z0, z1, z2, z3, z4, z5, z6, z7⟩ := eight_cells hev
          obtain ⟨q0, q1, q2, q3, q4, q5, q6, q7, q8⟩ := nine_cells (show w5.heap[w.heap.size]? = some (Obj.cells #[.int .i64 0, .int .i64 0, .int .i64 0, .int .i64 0, .int .i64 0, .int .i64 0, .bool false, .bool false, .int .i64 0] 36 (0, 0)) from D6.out.z)
          have fz0 : ∀ o, w5.frozen? ⟨w.heap.size, o, none⟩ = false := fun o => frozen_of_row _ _ o _ _ D6.out.z
          clear hev
          by_cases hc0 : c = 0
          · subst hc0
            have Y := Lib.hid (YES.out rfl)
            go_wp2_with fail
            exact rdec_end (x := ⟨num l 0, num l 1 - 1, num l 2 - 1, num l 3 - 1, num l 4 - 1, num l 5 - 1, false, false⟩) (z := (a : Int)) (y := zeroEv) (u := 0) D6.out.z D6.out.bel (Nat.le_refl _) rfl Y.out
          · have hcb : (c == 0) = false := by simpa using hc0
            have N := Lib.hid (NOT.out hcb)
            clear hc0
            go_wp2_with fail
            exact rdec_end (x := zeroEv) (z := 0) (y := zeroEv) (u := 0) D6.out.z D6.out.bel (Nat.le_refl _) rfl N.out
        · rw [show m1 1 = true from rfl, show m2 1 = false from rfl] at CK YES
          have D5 := Lib.hid (DR.out.below (below1 wr (Obj.cells #[.int .i64 (num l 0), .int .i64 (num l 1 - 1), .int .i64 (num l 2 - 1), .int .i64 (num l 3 - 1), .int .i64 (num l 4 - 1), .int .i64 (num l 5 - 1), .bool true, .bool false] 23)))
          go_wp2_with fail
          refine ((CK _).out).mono ?_
          rintro r w5 ⟨rfl, hB5⟩
          have D6 := Lib.hid (D5.out.below hB5)
          have hev : w5.heap[wr.heap.size]? = some (Obj.cells #[.int .i64 (num l 0), .int .i64 (num l 1 - 1), .int .i64 (num l 2 - 1), .int .i64 (num l 3 - 1), .int .i64 (num l 4 - 1), .int .i64 (num l 5 - 1), .bool true, .bool false] 23 (0, 0)) := (hB5.block _ (by simp)).trans (heap_alloc_new _ _)
          clear hB5 q0 q1 q2 q3 q4 q5 q6 q7 q8 fz0 fz1 z0 z1 z2 z3 z4 z5 z6
          obtain ⟨z0, z1, z2, z3, z4, z5, z6, z7⟩ := eight_cells hev
          obtain ⟨q0, q1, q2, q3, q4, q5, q6, q7, q8⟩ := nine_cells (show w5.heap[w.heap.size]? = some (Obj.cells #[.int .i64 0, .int .i64 0, .int .i64 0, .int .i64 0, .int .i64 0, .int .i64 0, .bool false, .bool false, .int .i64 0] 36 (0, 0)) from D6.out.z)
          have fz0 : ∀ o, w5.frozen? ⟨w.heap.size, o, none⟩ = false := fun o => frozen_of_row _ _ o _ _ D6.out.z
          clear hev
          by_cases hc0 : c = 0
          · subst hc0
            have Y := Lib.hid (YES.out rfl)
            go_wp2_with fail
            exact rdec_end (x := ⟨num l 0, num l 1 - 1, num l 2 - 1, num l 3 - 1, num l 4 - 1, num l 5 - 1, true, false⟩) (z := (a : Int)) (y := zeroEv) (u := 0) D6.out.z D6.out.bel (Nat.le_refl _) rfl Y.out
          · have hcb : (c == 0) = false := by simpa using hc0
            have N := Lib.hid (NOT.out hcb)
            clear hc0
            go_wp2_with fail
            exact rdec_end (x := zeroEv) (z := 0) (y := zeroEv) (u := 0) D6.out.z D6.out.bel (Nat.le_refl _) rfl N.out
        · rw [show m1 2 = false from rfl, show m2 2 = true from rfl] at CK YES
          have D5 := Lib.hid (DR.out.below (below1 wr (Obj.cells #[.int .i64 (num l 0), .int .i64 (num l 1 - 1), .int .i64 (num l 2 - 1), .int .i64 (num l 3 - 1), .int .i64 (num l 4 - 1), .int .i64 (num l 5 - 1), .bool false, .bool true] 23)))
          go_wp2_with fail
          refine ((CK _).out).mono ?_
          rintro r w5 ⟨rfl, hB5⟩
          have D6 := Lib.hid (D5.out.below hB5)
          have hev : w5.heap[wr.heap.size]? = some (Obj.cells #[.int .i64 (num l 0), .int .i64 (num l 1 - 1), .int .i64 (num l 2 - 1), .int .i64 (num l 3 - 1), .int .i64 (num l 4 - 1), .int .i64 (num l 5 - 1), .bool false, .bool true] 23 (0, 0)) := (hB5.block _ (by simp)).trans (heap_alloc_new _ _)
          clear hB5 q0 q1 q2 q3 q4 q5 q6 q7 q8 fz0 fz1 z0 z1 z2 z3 z4 z5 z6
          obtain ⟨z0, z1, z2, z3, z4, z5, z6, z7⟩ := eight_cells hev
          obtain ⟨q0, q1, q2, q3, q4, q5, q6, q7, q8⟩ := nine_cells (show w5.heap[w.heap.size]? = some (Obj.cells #[.int .i64 0, .int .i64 0, .int .i64 0, .int .i64 0, .int .i64 0, .int .i64 0, .bool false, .bool false, .int .i64 0] 36 (0, 0)) from D6.out.z)
          have fz0 : ∀ o, w5.frozen? ⟨w.heap.size, o, none⟩ = false := fun o => frozen_of_row _ _ o _ _ D6.out.z
          clear hev
          by_cases hc0 : c = 0
          · subst hc0
            have Y := Lib.hid (YES.out rfl)
            go_wp2_with fail
            exact rdec_end (x := ⟨num l 0, num l 1 - 1, num l 2 - 1, num l 3 - 1, num l 4 - 1, num l 5 - 1, false, true⟩) (z := (a : Int)) (y := zeroEv) (u := 0) D6.out.z D6.out.bel (Nat.le_refl _) rfl Y.out
          · have hcb : (c == 0) = false := by simpa using hc0
            have N := Lib.hid (NOT.out hcb)
            clear hc0
            go_wp2_with fail
            exact rdec_end (x := zeroEv) (z := 0) (y := zeroEv) (u := 0) D6.out.z D6.out.bel (Nat.le_refl _) rfl N.out
        · rw [show m1 3 = true from rfl, show m2 3 = true from rfl] at CK YES
          have D5 := Lib.hid (DR.out.below (below1 wr (Obj.cells #[.int .i64 (num l 0), .int .i64 (num l 1 - 1), .int .i64 (num l 2 - 1), .int .i64 (num l 3 - 1), .int .i64 (num l 4 - 1), .int .i64 (num l 5 - 1), .bool true, .bool true] 23)))
          go_wp2_with fail
          refine ((CK _).out).mono ?_
          rintro r w5 ⟨rfl, hB5⟩
          have D6 := Lib.hid (D5.out.below hB5)
          have hev : w5.heap[wr.heap.size]? = some (Obj.cells #[.int .i64 (num l 0), .int .i64 (num l 1 - 1), .int .i64 (num l 2 - 1), .int .i64 (num l 3 - 1), .int .i64 (num l 4 - 1), .int .i64 (num l 5 - 1), .bool true, .bool true] 23 (0, 0)) := (hB5.block _ (by simp)).trans (heap_alloc_new _ _)
          clear hB5 q0 q1 q2 q3 q4 q5 q6 q7 q8 fz0 fz1 z0 z1 z2 z3 z4 z5 z6
          obtain ⟨z0, z1, z2, z3, z4, z5, z6, z7⟩ := eight_cells hev
          obtain ⟨q0, q1, q2, q3, q4, q5, q6, q7, q8⟩ := nine_cells (show w5.heap[w.heap.size]? = some (Obj.cells #[.int .i64 0, .int .i64 0, .int .i64 0, .int .i64 0, .int .i64 0, .int .i64 0, .bool false, .bool false, .int .i64 0] 36 (0, 0)) from D6.out.z)
          have fz0 : ∀ o, w5.frozen? ⟨w.heap.size, o, none⟩ = false := fun o => frozen_of_row _ _ o _ _ D6.out.z
          clear hev
          by_cases hc0 : c = 0
          · subst hc0
            have Y := Lib.hid (YES.out rfl)
            go_wp2_with fail
            exact rdec_end (x := ⟨num l 0, num l 1 - 1, num l 2 - 1, num l 3 - 1, num l 4 - 1, num l 5 - 1, true, true⟩) (z := (a : Int)) (y := zeroEv) (u := 0) D6.out.z D6.out.bel (Nat.le_refl _) rfl Y.out
          · have hcb : (c == 0) = false := by simpa using hc0
            have N := Lib.hid (NOT.out hcb)
            clear hc0
            go_wp2_with fail
            exact rdec_end (x := zeroEv) (z := 0) (y := zeroEv) (u := 0) D6.out.z D6.out.bel (Nat.le_refl _) rfl N.out
end Go.Proofs.YtmmkdbcgkafolaaDoor

