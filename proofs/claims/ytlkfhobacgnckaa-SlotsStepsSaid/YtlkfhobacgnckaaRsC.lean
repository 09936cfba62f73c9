
/-
  staitheref15: what a call keeps; turns of the slots; New, Close.
-/
import Derived.Test.YtlkfhobacgnckaaRsB
namespace Go.Proofs.Ytlkfhobacgnckaa
open Go.RowKit
set_option linter.unusedVariables false
set_option linter.unusedSimpArgs false
set_option maxRecDepth 100000

/-! ### What a call on the reference's slots keeps -/
def KeepQ (B : Nat) (w w' : World) : Prop := (∀ e, e ≠ 56 → e ≠ 80 → e ≠ 60 → KeepT e w w') ∧ ∀ w0 : World, B ≤ w0.heap.size → Below B w0 w → Below B w0 w'
theorem KeepQ.refl (B : Nat) (w : World) : KeepQ B w w := ⟨fun _ _ _ _ => KeepT.refl _ _, fun _ _ h => h⟩
theorem KeepQ.trans {B : Nat} {a b c : World} (h : KeepQ B a b) (k : KeepQ B b c) : KeepQ B a c := ⟨fun e h1 h2 h3 => (h.1 e h1 h2 h3).trans (k.1 e h1 h2 h3), fun w0 hw hb => k.2 w0 hw (h.2 w0 hw hb)⟩
theorem KeepQ.below {B : Nat} {w w' : World} (hB : B ≤ w.heap.size) (h : Below w.heap.size w w') : KeepQ B w w' := ⟨fun _ _ _ _ => keepT_below h, fun w0 hw hb => below_trans hb h hB⟩
theorem KeepQ.size {B : Nat} {w w' : World} (h : KeepQ B w w') (hB : B ≤ w.heap.size) : w.heap.size ≤ w'.heap.size := (h.2 w hB (Below.refl _ _)).size
/-- One block of these types has turned. -/
theorem keepQ_turned {B b : Nat} {w w' : World} {cur : Array Value} {t : TypeId} {f : Nat × Nat} (hb : w.heap[b]? = some (.cells cur t f)) (ht : t = 56 ∨ t = 80 ∨ t = 60) (hl : B ≤ b) (h : Turned (fun i => i = b) w w') : KeepQ B w w' := by
  refine ⟨fun e h1 h2 h3 => keepT_turned h fun i c fz hi e' => ?_, fun w0 hw hB => ⟨h.os.trans hB.os, h.tape.trans hB.tape, h.output.trans hB.output, Nat.le_trans hB.size h.size, fun i hi => (h.block i (Nat.lt_of_lt_of_le hi (Nat.le_trans hw hB.size)) (by omega)).trans (hB.block i hi)⟩⟩
  subst e'
  rw [hb] at hi
  have := Option.some.inj hi
  injection this with e1 e2
  rcases ht with rfl | rfl | rfl
  · exact h1 e2.symm
  · exact h2 e2.symm
  · exact h3 e2.symm
/-- A row of the reference's clocks has grown. -/
theorem keepQ_grown {B n : Nat} {w w' : World} {v : Value} {xs : List Value} (hr : w.ownsRow B 56 256 v n xs) (hg : w.grownBy w' v.ownBlock) : KeepQ B w w' :=
  ⟨fun e h1 _ _ => keepT_grown hr hg h1, fun w0 hw h => h.grown hg (Nat.le_trans hw h.size) (fun k hk => (own_lt hr hk).2)⟩
theorem only_cell {b o n : Nat} {w w' : World} (h : Only b o n w w') {cur : Array Value} {t : TypeId} (hb : w.heap[b]? = some (.cells cur t (0, 0))) (i : Nat) (hi : i < o ∨ o + n ≤ i) : w'.cell? ⟨b, i, none⟩ = w.cell? ⟨b, i, none⟩ := by
  obtain ⟨cur', h1, _, h2⟩ := h.here cur t hb
  simp only [World.cell?, h1, hb]
  rw [h2 i hi]
theorem only_ty {b o n : Nat} {w w' : World} (h : Only b o n w w') {cur : Array Value} {t : TypeId} (hb : w.heap[b]? = some (.cells cur t (0, 0))) : ∃ cur', w'.heap[b]? = some (.cells cur' t (0, 0)) := by
  obtain ⟨cur', h1, _, h2⟩ := h.here cur t hb
  exact ⟨cur', h1⟩
/-- The rows, where only the slots' own block has turned. -/
theorem QAt.rows {B q : Nat} {w w' : World} {vS vR : Value} {Q : Rf} (h : QAt B q w vS vR Q) (ht : Turned (fun i => i = q) w w') :
    w'.ownsRow B 56 256 vS Q.S.length (flatV Q.S) ∧ w'.ownsRow B 56 256 vR Q.R.length (flatV Q.R) ∧ B ≤ w'.heap.size := by
  obtain ⟨cur, hc⟩ := h.ty
  have k : KeepT 56 w w' := keepT_turned ht fun i c fz hi e => by
    subst e
    rw [hc] at hi
    have := Option.some.inj hi
    injection this with e1 e2
    exact absurd e2 (by decide)
  exact ⟨ownsRow_keep h.rowS k, ownsRow_keep h.rowR k, Nat.le_trans h.bw ht.size⟩
/-- The mark is set. -/
theorem QAt.setCl {B q : Nat} {w : World} {vS vR : Value} {Q : Rf} (h : QAt B q w vS vR Q) (x : Bool) : QAt B q (w.setCell ⟨q, 3, none⟩ (.bool x)) vS vR ⟨Q.size, Q.S, Q.R, x, Q.cg⟩ := by
  obtain ⟨cur, hc⟩ := h.ty
  have ho : Only q 3 1 w (w.setCell ⟨q, 3, none⟩ (.bool x)) := Only.of_set (t := 0) _ (by omega)
  obtain ⟨r1, r2, r3⟩ := h.rows ho.turned
  have f := fun i hi => only_cell ho hc i hi
  refine ⟨only_ty ho hc, (f 0 (by omega)).trans h.c0, (f 1 (by omega)).trans h.c1, (f 2 (by omega)).trans h.c2, World.cell?_setCell_same _ _ _ h.c3, ⟨fun j v hj => ?_, fun i => ?_⟩, h.lg, r1, r2, h.lS, h.lR, h.apart, h.low, r3, h.sz⟩
  · rw [f (4 + j) (by omega)]
    exact h.cg.range j v hj
  · obtain ⟨cur', hc'⟩ := only_ty ho hc
    simp [World.frozen?, hc']
/-- The closing clock is stored. -/
theorem QAt.setCg {B q : Nat} {w w' : World} {vS vR : Value} {Q : Rf} (h : QAt B q w vS vR Q) {l : List Int} (hl : l.length = 256) (ho : Only q 4 256 w w') (L : Lg w' q 4 (ints l)) : QAt B q w' vS vR ⟨Q.size, Q.S, Q.R, Q.cl, l⟩ := by
  obtain ⟨cur, hc⟩ := h.ty
  obtain ⟨r1, r2, r3⟩ := h.rows ho.turned
  have f := fun i hi => only_cell ho hc i hi
  exact ⟨only_ty ho hc, (f 0 (by omega)).trans h.c0, (f 1 (by omega)).trans h.c1, (f 2 (by omega)).trans h.c2, (f 3 (by omega)).trans h.c3, L, hl, r1, r2, h.lS, h.lR, h.apart, h.low, r3, h.sz⟩

/-! ### Close -/
def Rf.close (Q : Rf) (l : List Int) : Rf := if Q.cl then Q else ⟨Q.size, Q.S, Q.R, true, l⟩
def QCls (B q : Nat) (vS vR : Value) (Q : Rf) (l : List Int) (w : World) (r : Ending) (w' : World) : Prop :=
  r = .returned (.int .i64 (if Q.cl then 90 else 0)) ∧ QAt B q w' vS vR (Q.close l) ∧ KeepQ B w w'
set_option maxHeartbeats 2000000 in
theorem close15_any {B q : Nat} {w : World} {vS vR : Value} {Q : Rf} (h : QAt B q w vS vR Q) (l : List Int) (hl : l.length = 256) (Z : Array Value) (hZ : (ints l).toArray = Z) :
    Calls Try.prog 28 #[.pointer (some ⟨q, 0, none⟩), .agg Z] w (QCls B q vS vR Q l w) := by
  have B0 := Lib.hid ((Below.refl w.heap.size w).alloc (Nat.le_refl _) (.cells Z 56))
  have A0 := Lib.hid (Lg.new w (ints l) 56 hZ)
  have h1 := h.below B0.out
  have K0 := Lib.hid (KeepQ.below h.bw B0.out)
  have c3 := h1.c3
  have f3 := h1.fz 3
  have H1 := Lib.hid h1
  have HZ := Lib.hid hZ
  have hli : (Try.prog.info? 56).map (·.size) = some (ints l).length := by rw [rsize, length_ints, hl]
  have HLI := Lib.hid hli
  have HL := Lib.hid hl
  have hqn : q ≠ w.heap.size := by
    obtain ⟨cur, hc⟩ := h.ty
    have := lt_of_heap hc
    omega
  have hZs : Z.size = 256 := by rw [← hZ]; simp [length_ints, hl]
  have ob : ∀ u ∈ ints l, u.oneCell' = true := ints1 l
  have OB := Lib.hid ob
  clear h h1 hZ hli ob hl
  obtain ⟨Qz, QS, QR, Qc, Qg⟩ := Q
  dsimp only at c3
  cases Qc with
  | true =>
    go_enter Try.func28, Try.ntmps28
    go_wp2_with fail
    go_ret
    exact ⟨rfl, H1.out, K0.out⟩
  | false =>
    go_enter Try.func28, Try.ntmps28
    go_upto_region 4 with fail
    obtain ⟨W, hW⟩ : ∃ x, (w.alloc (.cells Z 56)).setCell ⟨q, 3, none⟩ (.bool true) = x := ⟨_, rfl⟩
    have Q2 := Lib.hid (show QAt B q W vS vR ⟨Qz, QS, QR, true, Qg⟩ from by rw [← hW]; exact H1.out.setCl true)
    have A2 := Lib.hid (show Lg W w.heap.size 0 (ints l) from by rw [← hW]; exact A0.out.block (heap_setCell_other _ _ _ _ (by show w.heap.size ≠ q; omega)))
    have K2 := Lib.hid (show KeepQ B (w.alloc (.cells Z 56)) W from by
      obtain ⟨cur, hc⟩ := H1.out.ty
      rw [← hW]
      exact keepQ_turned hc (.inr (.inl rfl)) H1.out.low (Only.of_set (b := q) (o := 3) (n := 1) (t := 0) _ (by omega)).turned)
    rw [hW]
    clear hW c3 f3
    go_wp2_with (first
      | (with_reducible refine wpList_load_lg rfl 56 (.tmp 3) (by rfl) w.heap.size 0 ?lx_1 (ints l) _ Z HZ.out A2.out Try.underlying56 rfl HLI.out ?_)
      | (with_reducible refine wpList_store_lg rfl 56 (.tmp 15) (.tmp 13) (by rfl) q 4 ?sx_1 (ints l) (ints Qg) Z ?sy_1 HZ.out Q2.out.cg ?hl_1 HLI.out OB.out ?_))
    (try case lx_1 => rfl)
    (try case sx_1 => rfl)
    (try case sy_1 => rfl)
    (try case hl_1 => rw [length_ints, length_ints, HL.out]; exact Q2.out.lg)
    intro w3 L3 T3
    have HL3 := HL.out
    have T3' : Only q 4 256 W w3 := by have := T3; rw [length_ints, HL3] at this; exact this
    have Q3 := Lib.hid (Q2.out.setCg HL.out T3' L3)
    have K3 := Lib.hid (show KeepQ B W w3 from by
      obtain ⟨cur, hc⟩ := Q2.out.ty
      exact keepQ_turned hc (.inr (.inl rfl)) Q2.out.low T3'.turned)
    clear L3 T3 T3'
    go_wp2_with fail
    go_ret
    exact ⟨rfl, Q3.out, (K0.out.trans K2.out).trans K3.out⟩
end Go.Proofs.Ytlkfhobacgnckaa

