
/-
  Package deed: Decode. (Printed by gen04j.py.)
-/
import Derived.Test.YtpefjcmaggimhaaDeeI
import Derived.Deep.RegionHeld3
namespace Go.Proofs.Ytpefjcmaggimhaa
open Go.RowKit
set_option linter.unusedVariables false
set_option linter.unusedSimpArgs false
set_option maxRecDepth 100000

def DecPostT (s : List UInt8) (p : Int) (w : World) (r : Ending) (w' : World) : Prop :=
  ∃ v, r = .returned (.tuple #[opV v (decO s p), bs (decOR s p), .int .i64 (decOF s p)]) ∧ CssTy w' v (decO s p).cs ∧ Below w.heap.size w w'

theorem ddec_at {s : List UInt8} {p : Int} {w V : World} {B : Nat} {x : Opn} {v : Value} {tmps : Array Value} (hc : V.heap[B]? = some (Obj.cells (opC v x) 48 (0, 0))) (hb : Below w.heap.size w V)
    (ht : tmps.getD 4 undef = .pointer (some ⟨B, 0, none⟩)) (hx : decO s p = x) (hr : bs (decOR s p) = tmps.getD 5 undef) (hf : Value.int .i64 (decOF s p) = tmps.getD 6 undef) (hcs : CssTy V v x.cs) :
    bodyPost Try.prog Try.f67 (DecPostT s p w) Exit.ret { tmps := tmps, defers := [] } V := by
  obtain ⟨z0, z1, z2, z3, z4⟩ := five_cells hc
  have ht' : tmps[4]?.getD undef = .pointer (some ⟨B, 0, none⟩) := by simpa using ht
  refine bodyPost_ret (v := .tuple #[opV v x, tmps.getD 5 undef, tmps.getD 6 undef]) ?_ rfl ⟨v, by rw [hx, hr, hf], by rw [hx]; exact hcs, hb⟩
  simp [results, Try.results67, ht', asAddr, go_sem, z0, z1, z2, z3, z4, opV]
theorem ddec_end {s : List UInt8} {p : Int} {w W : World} {B : Nat} {x y : Opn} {v vy : Value} {tmps : Array Value} (h : W.heap[B]? = some (Obj.cells (opC vy y) 48 (0, 0))) (hB : Below w.heap.size w W) (hle : w.heap.size ≤ B)
    (ht : tmps.getD 4 undef = .pointer (some ⟨B, 0, none⟩)) (hx : decO s p = x) (hr : bs (decOR s p) = tmps.getD 5 undef) (hf : Value.int .i64 (decOF s p) = tmps.getD 6 undef) (hcs : ∀ V, W.grownBy V (some B) → CssTy V v x.cs) :
    bodyPost Try.prog Try.f67 (DecPostT s p w) Exit.ret { tmps := tmps, defers := [] }
      (((((W.setCell ⟨B, 0, none⟩ (.int .i64 x.k)).setCell ⟨B, 1, none⟩ (.int .i64 x.a)).setCell ⟨B, 2, none⟩ (.int .i64 x.b)).setCell ⟨B, 3, none⟩ v).setCell ⟨B, 4, none⟩ (.bool x.df)) := by
  obtain ⟨V, hV⟩ : ∃ V, (((((W.setCell ⟨B, 0, none⟩ (.int .i64 x.k)).setCell ⟨B, 1, none⟩ (.int .i64 x.a)).setCell ⟨B, 2, none⟩ (.int .i64 x.b)).setCell ⟨B, 3, none⟩ v).setCell ⟨B, 4, none⟩ (.bool x.df)) = V := ⟨_, rfl⟩
  have hc : V.heap[B]? = some (Obj.cells (opC v x) 48 (0, 0)) := by
    rw [← hV]
    have h0 := heap_setCell_same _ _ 0 _ _ (.int .i64 x.k) h
    have h1 := heap_setCell_same _ _ 1 _ _ (.int .i64 x.a) h0
    have h2 := heap_setCell_same _ _ 2 _ _ (.int .i64 x.b) h1
    have h3 := heap_setCell_same _ _ 3 _ _ v h2
    have h4 := heap_setCell_same _ _ 4 _ _ (.bool x.df) h3
    rw [h4]
    simp [opC]
  have hb : Below w.heap.size w V := by
    rw [← hV]
    exact ((((hB.setCell hle _).setCell hle _).setCell hle _).setCell hle _).setCell hle _
  have hg : W.grownBy V (some B) := by
    rw [← hV]
    exact ((((gr_set W ⟨B, 0, none⟩ _).trans (gr_set _ ⟨B, 1, none⟩ _)).trans (gr_set _ ⟨B, 2, none⟩ _)).trans (gr_set _ ⟨B, 3, none⟩ _)).trans (gr_set _ ⟨B, 4, none⟩ _)
  rw [hV]
  exact ddec_at hc hb ht hx hr hf (hcs V hg)
theorem ddec_endD {s : List UInt8} {p : Int} {w W : World} {B : Nat} {x y : Opn} {v vy : Value} {tmps : Array Value} (h : W.heap[B]? = some (Obj.cells (opC vy y) 48 (0, 0))) (hB : Below w.heap.size w W) (hle : w.heap.size ≤ B)
    (ht : tmps.getD 4 undef = .pointer (some ⟨B, 0, none⟩)) (hx : decO s p = x) (hr : bs (decOR s p) = tmps.getD 5 undef) (hf : Value.int .i64 (decOF s p) = tmps.getD 6 undef) (hcs : ∀ V, W.grownBy V (some B) → CssTy V v x.cs) :
    bodyPost Try.prog Try.f67 (DecPostT s p w) Exit.ret { tmps := tmps, defers := [] }
      (((((W.setCell ⟨B, 0, none⟩ (.int .i64 x.k)).setCell ⟨B, 1, none⟩ (.int .i64 x.a)).setCell ⟨B, 2, none⟩ (.int .i64 x.b)).setCell ⟨B, 3, none⟩ v).setCell ⟨B, 4, none⟩ (.bool x.df)).drew := by
  obtain ⟨V, hV⟩ : ∃ V, (((((W.setCell ⟨B, 0, none⟩ (.int .i64 x.k)).setCell ⟨B, 1, none⟩ (.int .i64 x.a)).setCell ⟨B, 2, none⟩ (.int .i64 x.b)).setCell ⟨B, 3, none⟩ v).setCell ⟨B, 4, none⟩ (.bool x.df)) = V := ⟨_, rfl⟩
  have hc : V.heap[B]? = some (Obj.cells (opC v x) 48 (0, 0)) := by
    rw [← hV]
    have h0 := heap_setCell_same _ _ 0 _ _ (.int .i64 x.k) h
    have h1 := heap_setCell_same _ _ 1 _ _ (.int .i64 x.a) h0
    have h2 := heap_setCell_same _ _ 2 _ _ (.int .i64 x.b) h1
    have h3 := heap_setCell_same _ _ 3 _ _ v h2
    have h4 := heap_setCell_same _ _ 4 _ _ (.bool x.df) h3
    rw [h4]
    simp [opC]
  have hb : Below w.heap.size w V := by
    rw [← hV]
    exact ((((hB.setCell hle _).setCell hle _).setCell hle _).setCell hle _).setCell hle _
  have hg : W.grownBy V (some B) := by
    rw [← hV]
    exact ((((gr_set W ⟨B, 0, none⟩ _).trans (gr_set _ ⟨B, 1, none⟩ _)).trans (gr_set _ ⟨B, 2, none⟩ _)).trans (gr_set _ ⟨B, 3, none⟩ _)).trans (gr_set _ ⟨B, 4, none⟩ _)
  rw [hV]
  exact ddec_at (V := V.drew) hc hb.drew ht hx hr hf (hcs _ (hg.trans (gr_drew _ _)))
theorem Tk.nextT_len (t : Tk) : t.nextT.l.length ≤ t.l.length := Tk.next_len t
theorem dA_len (s : List UInt8) (p : Int) : (dA s p).2.l.length ≤ s.length := by
  have h1 : (dT1 s).l.length ≤ s.length := Tk.next_len ⟨s, false⟩
  unfold dA
  split
  · exact Nat.le_trans (Tk.next_len _) h1
  · exact h1
theorem dB_len (s : List UInt8) (p : Int) : (dB s p).2.l.length ≤ s.length := by
  have h1 := dA_len s p
  unfold dB
  split
  · exact Nat.le_trans (Tk.next_len _) h1
  · exact h1

set_option maxHeartbeats 8000000 in
theorem ddecodeT_any (s : List UInt8) (p : Int) (w : World) (hl : s.length ≤ 140737488351232) : Calls Try.prog 67 #[bs s, .int .i64 p] w (DecPostT s p w) := by
  have R0 : (w.alloc (.cells (opC (.slice none 0 0) zeroOp) 48)).heap[w.heap.size]? = some (Obj.cells (opC (.slice none 0 0) zeroOp) 48 (0, 0)) := heap_alloc_new _ _
  have RR0 := Lib.hid R0
  by_cases hp1 : p < 1
  · have E := Lib.hid (show decO s p = zeroOp ∧ decOR s p = [] ∧ decOF s p = 1 by
      have e : decOk s p = false := by unfold decOk; rw [decide_eq_false (by omega)]; rfl
      exact ⟨by simp [decO, e], by simp [decOR, e], by unfold decOF; rw [if_pos (.inl hp1)]⟩)
    clear R0
    go_enter Try.func67, Try.ntmps67
    go_wp2_with fail
    refine ddec_at (x := zeroOp) (v := .slice none 0 0) RR0.out (below1 _ _) ?_ E.out.1 ?_ ?_ (CssTy.nil _)
    · rfl
    · rw [E.out.2.1]; rfl
    · rw [E.out.2.2]; rfl
  by_cases hp2 : 8 < p
  · have E := Lib.hid (show decO s p = zeroOp ∧ decOR s p = [] ∧ decOF s p = 1 by
      have e : decOk s p = false := by unfold decOk; rw [decide_eq_false (by omega)]; rfl
      exact ⟨by simp [decO, e], by simp [decOR, e], by unfold decOF; rw [if_pos (.inr hp2)]⟩)
    have d1 : decide (p < 1) = false := decide_eq_false hp1
    clear R0 hp1
    go_enter Try.func67, Try.ntmps67
    go_wp2_with fail
    refine ddec_at (x := zeroOp) (v := .slice none 0 0) RR0.out (below1 _ _) ?_ E.out.1 ?_ ?_ (CssTy.nil _)
    · rfl
    · rw [E.out.2.1]; rfl
    · rw [E.out.2.2]; rfl
  have d1 : decide (p < 1) = false := decide_eq_false hp1
  have d2 : decide (8 < p) = false := decide_eq_false hp2
  have EF := Lib.hid (show decOF s p = if decOk s p then 0 else 4 by unfold decOF; rw [if_neg (by omega)])
  have EK := Lib.hid (show decOk s p = (!(dOp s p).2.bad && (chkO (dOp s p).1 p == 0)) by unfold decOk; rw [decide_eq_true (by omega)]; rfl)
  have NO : Hid (decOk s p = false → decO s p = zeroOp ∧ decOR s p = [] ∧ decOF s p = 4) := Lib.hid (fun e => ⟨by simp [decO, e], by simp [decOR, e], by rw [EF.out, e]; rfl⟩)
  have YES : Hid (decOk s p = true → decO s p = (dOp s p).1 ∧ decOR s p = (dOp s p).2.l ∧ decOF s p = 0) := Lib.hid (fun e => ⟨by simp [decO, e], by simp [decOR, e], by rw [EF.out, e]; rfl⟩)
  clear hp1 hp2 R0 RR0
  have L1 : (dT1 s).l.length ≤ 140737488351232 := Nat.le_trans (Tk.next_len ⟨s, false⟩) hl
  have LA : (dA s p).2.l.length ≤ 140737488351232 := Nat.le_trans (dA_len s p) hl
  have LB : (dB s p).2.l.length ≤ 140737488351232 := Nat.le_trans (dB_len s p) hl
  have LIM := Lib.hid (fun w => limits_any (takV s) p w)
  have DA := Lib.hid (show dA s p = if 0 < limA (takV s) p then ((dT1 s).val, (dT1 s).next) else (0, dT1 s) from rfl)
  have DB := Lib.hid (show dB s p = if 0 < limB (takV s) then ((dA s p).2.val, (dA s p).2.next) else (0, (dA s p).2) from rfl)
  have DO := Lib.hid (show dOp s p = if takV s = 6 then (⟨takV s, (dA s p).1, (dB s p).1, (dL 5 (dB s p).2.nextT.val (dB s p).2.nextT.next).1, (dB s p).2.val == 1⟩, (dL 5 (dB s p).2.nextT.val (dB s p).2.nextT.next).2) else (⟨takV s, (dA s p).1, (dB s p).1, [], false⟩, (dB s p).2) from rfl)
  have T0 : Hid (∀ W, TkAt ⟨s, false⟩ (w.heap.size + 1) W → Calls Try.prog 76 #[.pointer (some ⟨w.heap.size + 1, 0, none⟩)] W fun r w' => r = .returned (.int .i64 (takV s)) ∧ TkAt (dT1 s) (w.heap.size + 1) w' ∧ W.grownBy w' (some (w.heap.size + 1)) ∧ w'.heap.size = W.heap.size) := Lib.hid (fun W h => ttake_any ⟨s, false⟩ _ W h hl)
  have LIM6 : Hid (takV s = 6 → limA (takV s) p = 0 ∧ limB (takV s) = 0) := Lib.hid (fun h => by rw [h]; exact ⟨rfl, rfl⟩)
  obtain ⟨k, hk⟩ : ∃ k, takV s = k := ⟨_, rfl⟩
  obtain ⟨t1, ht1⟩ : ∃ t, dT1 s = t := ⟨_, rfl⟩
  obtain ⟨⟨a, tA⟩, hA⟩ : ∃ t, dA s p = t := ⟨_, rfl⟩
  obtain ⟨⟨b, tB⟩, hB⟩ : ∃ t, dB s p = t := ⟨_, rfl⟩
  obtain ⟨la, hla⟩ : ∃ x, limA (takV s) p = x := ⟨_, rfl⟩
  obtain ⟨lb, hlb⟩ : ∃ x, limB (takV s) = x := ⟨_, rfl⟩
  rw [hla, hlb] at LIM LIM6
  rw [hla] at DA
  rw [hlb] at DB
  rw [hk] at LIM DO T0 LIM6
  rw [ht1] at L1 DA T0
  rw [hA] at LA DA DB DO
  rw [hB] at LB DB DO
  dsimp only at LA LB DB DO
  clear hk ht1 hA hB hla hlb EF
  obtain ⟨ss, hss⟩ : ∃ x, bs s = .string x := ⟨_, rfl⟩
  have K0 := Lib.hid (show TkAt ⟨s, false⟩ (w.heap.size + 1) ((w.alloc (.cells (opC (.slice none 0 0) zeroOp) 48)).alloc (.cells #[bs s, .bool false] 130)) by
    have h := heap_alloc_new (w.alloc (.cells (opC (.slice none 0 0) zeroOp) 48)) (.cells #[bs s, .bool false] 130)
    rw [World.size_alloc] at h
    exact h)
  have ST : Hid (∀ w1 : World, TkAt t1 (w.heap.size + 1) w1 → ((w.alloc (.cells (opC (.slice none 0 0) zeroOp) 48)).alloc (.cells #[bs s, .bool false] 130)).grownBy w1 (some (w.heap.size + 1)) → w1.heap.size = ((w.alloc (.cells (opC (.slice none 0 0) zeroOp) 48)).alloc (.cells #[bs s, .bool false] 130)).heap.size → DcSt t1 ⟨k, 0, 0, [], false⟩ (.slice none 0 0) w (w1.alloc (.cells #[.int .i64 k, .int .i64 0, .int .i64 0, .slice none 0 0, .bool false] 48))) := Lib.hid (fun w1 h1 h2 h3 => by
    rw [World.size_alloc, World.size_alloc] at h3
    have b0 : Below w.heap.size w w1 := (((Below.refl _ w).alloc (Nat.le_refl _) _).alloc (by simp) _).grown h2 (by simp; omega) (fun k hk => by have := Option.some.inj hk; omega)
    have r0 : w1.heap[w.heap.size]? = some (Obj.cells (opC (.slice none 0 0) zeroOp) 48 (0, 0)) := by
      rw [h2.block _ (by simp; omega) (by intro e; have := Option.some.inj e; omega), heap_alloc_old _ _ (by simp)]
      exact heap_alloc_new _ _
    refine ⟨by rw [heap_alloc_old _ _ (lt_of_heap r0)]; exact r0, h1.below (below1 _ _), ?_, World.ownsRow_nil _ _ _ _, b0.alloc b0.size _⟩
    have h := heap_alloc_new w1 (.cells #[.int .i64 k, .int .i64 0, .int .i64 0, .slice none 0 0, .bool false] 48)
    rw [h3] at h
    exact h)

  rw [hss] at K0 ST ⊢
  clear hss
  by_cases h6 : k = 6
  · skip
    have DOP6 := Lib.hid (show dOp s p = (⟨k, a, b, (dL 5 tB.nextT.val tB.nextT.next).1, tB.val == 1⟩, (dL 5 tB.nextT.val tB.nextT.next).2) by rw [DO.out, if_pos h6])
    obtain ⟨rfl, rfl⟩ := LIM6.out h6
    subst h6
    have ea : a = 0 ∧ tA = t1 := by have h := DA.out; rw [if_neg (by decide)] at h; exact ⟨(Prod.mk.inj h).1, (Prod.mk.inj h).2⟩
    obtain ⟨rfl, rfl⟩ := ea
    have eb : b = 0 ∧ tB = tA := by have h := DB.out; rw [if_neg (by decide)] at h; exact ⟨(Prod.mk.inj h).1, (Prod.mk.inj h).2⟩
    obtain ⟨rfl, rfl⟩ := eb
    obtain ⟨i0, hi, hz0, hz1, hz2⟩ := info_parts csinfo
    clear DA DB DO LIM6
    go_enter Try.func67, Try.ntmps67
    go_wp2_with fail
    refine (T0.out _ K0.out).mono ?_
    rintro r w1 ⟨rfl, ht1, hg1, hs1⟩
    have S1 := Lib.hid (ST.out w1 ht1 hg1 hs1)
    have SZ1 : w1.heap.size = w.heap.size + 2 := by rw [hs1]; simp
    clear ht1 hg1 hs1 K0 T0 ST
    go_wp2_with fail
    refine (LIM.out _).mono ?_
    rintro r w2 ⟨rfl, rfl⟩
    obtain ⟨V1, hV1⟩ : ∃ V, w1.alloc (.cells #[.int .i64 6, .int .i64 0, .int .i64 0, .slice none 0 0, .bool false] 48) = V := ⟨_, rfl⟩
    rw [hV1] at S1 ⊢
    clear hV1 SZ1
    obtain ⟨z0, z1, z2, z3, z4⟩ := five_cells S1.out.op
    obtain ⟨q0, q1, q2, q3, q4⟩ := five_cells S1.out.res
    obtain ⟨y0, y1, yf⟩ := two_cells S1.out.tk
    have zf : ∀ o, World.frozen? V1 ⟨w.heap.size + 2, o, none⟩ = false := fun o => frozen_of_row _ _ o _ _ S1.out.op
    have qf : ∀ o, World.frozen? V1 ⟨w.heap.size, o, none⟩ = false := fun o => frozen_of_row _ _ o _ _ S1.out.res
    dsimp only [opC] at z0 z1 z2 z3 z4 q0 q1 q2 q3 q4
    go_wp2_with fail
    refine (truth_any tB (w.heap.size + 1) _ S1.out.tk L1).mono ?_
    rintro r w2 ⟨rfl, ht, hg, hs⟩
    have S2a := Lib.hid (S1.out.take ht hg)
    have S2 := Lib.hid (S2a.out.set (o' := ⟨6, 0, 0, [], takV tB.l == 1⟩) 4 (.bool (takV tB.l == 1)) rfl rfl)
    clear z0 z1 z2 z3 z4 q0 q1 q2 q3 q4 y0 y1 yf zf qf ht hg hs
    obtain ⟨z0, z1, z2, z3, z4⟩ := five_cells S2a.out.op
    obtain ⟨q0, q1, q2, q3, q4⟩ := five_cells S2a.out.res
    obtain ⟨y0, y1, yf⟩ := two_cells S2a.out.tk
    have zf : ∀ o, World.frozen? w2 ⟨w.heap.size + 2, o, none⟩ = false := fun o => frozen_of_row _ _ o _ _ S2a.out.op
    have qf : ∀ o, World.frozen? w2 ⟨w.heap.size, o, none⟩ = false := fun o => frozen_of_row _ _ o _ _ S2a.out.res
    dsimp only [opC] at z0 z1 z2 z3 z4 q0 q1 q2 q3 q4
    go_wp2_with fail
    have LT := Tk.nextT_len tB
    refine (ttake_any tB.nextT (w.heap.size + 1) _ S2.out.tk (by omega)).mono ?_
    rintro r w3 ⟨rfl, ht, hg, hs⟩
    have S3 := Lib.hid (S2.out.take ht hg)
    have LT2 := Tk.next_len tB.nextT
    clear z0 z1 z2 z3 z4 q0 q1 q2 q3 q4 y0 y1 yf zf qf ht hg hs S2 S2a
    obtain ⟨dd, hdd⟩ : ∃ d, (takV tB.l == 1) = d := ⟨_, rfl⟩
    obtain ⟨cnt, hcnt⟩ : ∃ c, takV tB.nextT.l = c := ⟨_, rfl⟩
    obtain ⟨t2, ht2⟩ : ∃ t, tB.nextT.next = t := ⟨_, rfl⟩
    obtain ⟨⟨fc, ft⟩, hfin⟩ : ∃ x, dL 5 cnt t2 = x := ⟨_, rfl⟩
    have DOP7 := Lib.hid (show dOp s p = (⟨6, 0, 0, fc, dd⟩, ft) by rw [DOP6.out, ← hdd]; unfold Tk.val; rw [hcnt, ht2, hfin])
    rw [hdd] at S3 ⊢
    rw [hcnt]
    rw [ht2] at S3 LT2
    have FIN := Lib.hid hfin
    have LT3 : t2.l.length ≤ 140737488351232 := by omega
    clear hdd hcnt ht2 hfin DOP6 LT LT2 S1
    go_wp2_with fail
    go_loopw [12] (fun i wr => ∃ (j : Nat) (t : Tk) (cs : List Cs) (v : Value), j ≤ 5 ∧ i = .int .i64 j ∧ DcSt t ⟨6, 0, 0, cs, dd⟩ v w wr ∧ cs ++ (dL (5 - j) (cnt - j) t).1 = fc ∧ (dL (5 - j) (cnt - j) t).2 = ft ∧ t.l.length ≤ 140737488351232 ∧ cs.length = j) (fun i _ => 5 - (intOf i).toNat)
    case atStart => exact ⟨0, t2, [], .slice none 0 0, by omega, rfl, S3.out, by rw [show cnt - ((0 : Nat) : Int) = cnt by omega, FIN.out]; rfl, by rw [show cnt - ((0 : Nat) : Int) = cnt by omega, FIN.out], LT3, rfl⟩
    case round =>
      obtain ⟨j, t, cs, v, hj, rfl, hst, hf1, hf2, hlen, hcl⟩ := hrel
      have hrow := hst.row
      dsimp only at hrow
      obtain ⟨ao, ca, hv⟩ := owns_slice hrow
      rw [hcl] at hv
      subst hv
      have S := Lib.hid hst
      have F1 := Lib.hid hf1
      have F2 := Lib.hid hf2
      have CL := Lib.hid hcl
      clear hst hf1 hf2 hcl hrow S3 LT3
      cases hbad : t.bad with
      | true =>
        by_cases hc : (j : Int) < cnt
        · have dc : decide ((j : Int) < cnt) = true := decide_eq_true hc
          by_cases h4 : j ≤ 4
          · have d4 : decide ((j : Int) ≤ 4) = true := decide_eq_true (by omega)
            have STP := dL_stop (f := 5 - j) (c := cnt - j) (t := t) (by rw [hbad]; simp)
            have DOP := Lib.hid (show dOp s p = (⟨6, 0, 0, cs, dd⟩, t) by
              have h1 := F1.out
              have h2 := F2.out
              rw [STP] at h1 h2
              rw [DOP7.out, ← h1, ← h2]; simp)
            clear STP F1 F2
            obtain ⟨z0, z1, z2, z3, z4⟩ := five_cells S.out.op
            obtain ⟨q0, q1, q2, q3, q4⟩ := five_cells S.out.res
            obtain ⟨y0, y1, yf⟩ := two_cells S.out.tk
            have zf : ∀ o, World.frozen? wr ⟨w.heap.size + 2, o, none⟩ = false := fun o => frozen_of_row _ _ o _ _ S.out.op
            have qf : ∀ o, World.frozen? wr ⟨w.heap.size, o, none⟩ = false := fun o => frozen_of_row _ _ o _ _ S.out.res
            dsimp only [opC] at z0 z1 z2 z3 z4 q0 q1 q2 q3 q4
            have N := Lib.hid (NO.out (by rw [EK.out, DOP.out]; dsimp only; rw [hbad]; rfl))
            rw [hbad] at y1
            go_wp2_with fail
            refine ddec_end (x := zeroOp) (v := .slice none 0 0) S.out.res S.out.bel (Nat.le_refl _) ?_ N.out.1 ?_ ?_ (fun V _ => CssTy.nil V)
            · rfl
            · rw [N.out.2.1]; rfl
            · rw [N.out.2.2]; rfl
          · have d4 : decide ((j : Int) ≤ 4) = false := decide_eq_false (by omega)
            have STP := dL_stop (f := 5 - j) (c := cnt - j) (t := t) (by rw [hbad]; simp)
            have DOP := Lib.hid (show dOp s p = (⟨6, 0, 0, cs, dd⟩, t) by
              have h1 := F1.out
              have h2 := F2.out
              rw [STP] at h1 h2
              rw [DOP7.out, ← h1, ← h2]; simp)
            clear STP F1 F2
            obtain ⟨z0, z1, z2, z3, z4⟩ := five_cells S.out.op
            obtain ⟨q0, q1, q2, q3, q4⟩ := five_cells S.out.res
            obtain ⟨y0, y1, yf⟩ := two_cells S.out.tk
            have zf : ∀ o, World.frozen? wr ⟨w.heap.size + 2, o, none⟩ = false := fun o => frozen_of_row _ _ o _ _ S.out.op
            have qf : ∀ o, World.frozen? wr ⟨w.heap.size, o, none⟩ = false := fun o => frozen_of_row _ _ o _ _ S.out.res
            dsimp only [opC] at z0 z1 z2 z3 z4 q0 q1 q2 q3 q4
            have N := Lib.hid (NO.out (by rw [EK.out, DOP.out]; dsimp only; rw [hbad]; rfl))
            rw [hbad] at y1
            go_wp2_with fail
            refine ddec_end (x := zeroOp) (v := .slice none 0 0) S.out.res S.out.bel (Nat.le_refl _) ?_ N.out.1 ?_ ?_ (fun V _ => CssTy.nil V)
            · rfl
            · rw [N.out.2.1]; rfl
            · rw [N.out.2.2]; rfl
        · have dc : decide ((j : Int) < cnt) = false := decide_eq_false hc
          have STP := dL_stop (f := 5 - j) (c := cnt - j) (t := t) (by rw [hbad]; simp)
          have DOP := Lib.hid (show dOp s p = (⟨6, 0, 0, cs, dd⟩, t) by
            have h1 := F1.out
            have h2 := F2.out
            rw [STP] at h1 h2
            rw [DOP7.out, ← h1, ← h2]; simp)
          clear STP F1 F2
          obtain ⟨z0, z1, z2, z3, z4⟩ := five_cells S.out.op
          obtain ⟨q0, q1, q2, q3, q4⟩ := five_cells S.out.res
          obtain ⟨y0, y1, yf⟩ := two_cells S.out.tk
          have zf : ∀ o, World.frozen? wr ⟨w.heap.size + 2, o, none⟩ = false := fun o => frozen_of_row _ _ o _ _ S.out.op
          have qf : ∀ o, World.frozen? wr ⟨w.heap.size, o, none⟩ = false := fun o => frozen_of_row _ _ o _ _ S.out.res
          dsimp only [opC] at z0 z1 z2 z3 z4 q0 q1 q2 q3 q4
          have N := Lib.hid (NO.out (by rw [EK.out, DOP.out]; dsimp only; rw [hbad]; rfl))
          rw [hbad] at y1
          go_wp2_with fail
          refine ddec_end (x := zeroOp) (v := .slice none 0 0) S.out.res S.out.bel (Nat.le_refl _) ?_ N.out.1 ?_ ?_ (fun V _ => CssTy.nil V)
          · rfl
          · rw [N.out.2.1]; rfl
          · rw [N.out.2.2]; rfl
      | false =>
        by_cases hc : (j : Int) < cnt
        · have dc : decide ((j : Int) < cnt) = true := decide_eq_true hc
          by_cases h4 : j ≤ 4
          · have d4 : decide ((j : Int) ≤ 4) = true := decide_eq_true (by omega)
            have GO := dL_go (f := 4 - j) (c := cnt - j) (t := t) (by omega) hbad
            rw [show 4 - j + 1 = 5 - j by omega] at GO
            have LN1 := Tk.nextT_len t
            have LN2 := Tk.next_len t.nextT
            have LN3 := Tk.next_len t.nextT.next
            have G1 := Lib.hid (show (cs ++ [(⟨takV t.l == 1, takV t.nextT.l, takV t.nextT.next.l⟩ : Cs)]) ++ (dL (5 - (j + 1)) (cnt - ((j + 1 : Nat) : Int)) t.nextT.next.next).1 = fc ∧ (dL (5 - (j + 1)) (cnt - ((j + 1 : Nat) : Int)) t.nextT.next.next).2 = ft by
              have h1 := F1.out
              have h2 := F2.out
              rw [GO] at h1 h2
              rw [show 5 - (j + 1) = 4 - j by omega, show cnt - ((j + 1 : Nat) : Int) = cnt - j - 1 by omega]
              refine ⟨?_, h2⟩
              rw [← h1, List.append_assoc]; rfl)
            obtain ⟨z0, z1, z2, z3, z4⟩ := five_cells S.out.op
            obtain ⟨q0, q1, q2, q3, q4⟩ := five_cells S.out.res
            obtain ⟨y0, y1, yf⟩ := two_cells S.out.tk
            have zf : ∀ o, World.frozen? wr ⟨w.heap.size + 2, o, none⟩ = false := fun o => frozen_of_row _ _ o _ _ S.out.op
            have qf : ∀ o, World.frozen? wr ⟨w.heap.size, o, none⟩ = false := fun o => frozen_of_row _ _ o _ _ S.out.res
            dsimp only [opC] at z0 z1 z2 z3 z4 q0 q1 q2 q3 q4
            rw [hbad] at y1
            clear GO F1 F2 hbad
            go_wp2_with fail
            refine (truth_any t (w.heap.size + 1) _ S.out.tk hlen).mono ?_
            rintro r w4 ⟨rfl, ht, hg, hs⟩
            have S4 := Lib.hid (S.out.take ht hg)
            clear z0 z1 z2 z3 z4 q0 q1 q2 q3 q4 y0 y1 yf zf qf ht hg hs
            obtain ⟨sd, hsd⟩ : ∃ d, (takV t.l == 1) = d := ⟨_, rfl⟩
            obtain ⟨t4, ht4⟩ : ∃ x, t.nextT = x := ⟨_, rfl⟩
            rw [hsd] at G1 ⊢
            rw [ht4] at G1 S4 LN1 LN2 LN3
            clear hsd ht4
            have C4 := Lib.hid (heap_alloc_new w4 (.cells #[.bool sd, .int .i64 0, .int .i64 0] 50))
            have S5 := Lib.hid (S4.out.below (below1 w4 (.cells #[.bool sd, .int .i64 0, .int .i64 0] 50)))
            have SZ4 := S4.out.bel.size
            have SZ4b := lt_of_heap S4.out.op
            have NB := Lib.hid (fun e => by have := (S4.out.row.lt w4.heap.size e).2; omega : (Value.slice ao j ca).ownBlock ≠ some w4.heap.size)
            go_wp2_with fail
            refine (ttake_any t4 (w.heap.size + 1) _ S5.out.tk (by omega)).mono ?_
            rintro r w5 ⟨rfl, ht, hg, hs⟩
            have S6 := Lib.hid (S5.out.take ht hg)
            have C6 := Lib.hid ((hg.block _ (lt_of_heap C4.out) (by intro e; have := Option.some.inj e; omega)).trans C4.out)
            clear ht hg hs
            go_wp2_with fail
            refine (ttake_any t4.next (w.heap.size + 1) _ S6.out.tk (by omega)).mono ?_
            rintro r w6 ⟨rfl, ht, hg, hs⟩
            have S7 := Lib.hid (S6.out.take ht hg)
            have C7 := Lib.hid ((hg.block _ (lt_of_heap C6.out) (by intro e; have := Option.some.inj e; omega)).trans C6.out)
            clear ht hg hs
            obtain ⟨ch, hch⟩ : ∃ d, takV t4.l = d := ⟨_, rfl⟩
            obtain ⟨va, hva⟩ : ∃ d, takV t4.next.l = d := ⟨_, rfl⟩
            rw [hch, hva] at G1 ⊢
            clear hch hva
            obtain ⟨z0, z1, z2, z3, z4⟩ := five_cells S7.out.op
            obtain ⟨q0, q1, q2, q3, q4⟩ := five_cells S7.out.res
            obtain ⟨y0, y1, yf⟩ := two_cells S7.out.tk
            have zf : ∀ o, World.frozen? w6 ⟨w.heap.size + 2, o, none⟩ = false := fun o => frozen_of_row _ _ o _ _ S7.out.op
            have qf : ∀ o, World.frozen? w6 ⟨w.heap.size, o, none⟩ = false := fun o => frozen_of_row _ _ o _ _ S7.out.res
            dsimp only [opC] at z0 z1 z2 z3 z4 q0 q1 q2 q3 q4
            obtain ⟨x0, x1, x2⟩ := three_cells C7.out
            have xf : ∀ o, World.frozen? w6 ⟨w4.heap.size, o, none⟩ = false := fun o => frozen_of_row _ _ o _ _ C7.out
            have S8 := Lib.hid ((S7.out.gr (gr_set w6 ⟨w4.heap.size, 1, none⟩ (.int .i64 ch)) (by show _ ≤ w4.heap.size; omega) NB.out).gr (gr_set _ ⟨w4.heap.size, 2, none⟩ (.int .i64 va)) (by show _ ≤ w4.heap.size; omega) NB.out)
            have SZ8 := S7.out.bel.size
            have SZ8b := lt_of_heap S7.out.op
            have ROW8 := Lib.hid (show World.ownsRow ((w6.setCell ⟨w4.heap.size, 1, none⟩ (.int .i64 ch)).setCell ⟨w4.heap.size, 2, none⟩ (.int .i64 va)) (w.heap.size + 3) 50 3 (.slice ao j ca) j (csCells cs) by have h := S8.out.row; dsimp only at h; rw [CL.out] at h; exact h)
            go_wp2_with (at_builtin; refine wpList_append_own _ rfl _ _ 46 rfl (w.heap.size + 3) 50 i0 _ 3 24 Try.underlying46 hi hz0 hz1 hz2 rfl (by decide) _ _ _ rfl (show World.ownsRow _ _ _ _ _ _ _ from ROW8.out.alloc _) ⟨w6.heap.size, 0, none⟩ 1 1 (csC ⟨sd, ch, va⟩).toList rfl rfl ?c1 ?c2 ?c3 ?c4 ?c5 ?_)
            case c1 =>
              intro i u hu
              have := range_lit ((w6.setCell ⟨w4.heap.size, 1, none⟩ (.int .i64 ch)).setCell ⟨w4.heap.size, 2, none⟩ (.int .i64 va)) (csC ⟨sd, ch, va⟩).toList 50 i u hu
              simp only [World.size_setCell] at this
              exact this
            case c2 => exact csC_one _
            case c3 => unfold maxLen; omega
            case c4 => omega
            case c5 => simp; omega
            intro v' w7 hown hgr _
            obtain ⟨ao', ca', rfl⟩ := owns_slice hown
            obtain ⟨o7, S9⟩ := S8.out.app (c := ⟨sd, ch, va⟩) (v' := .slice ao' (j + 1) ca') (w' := w7) (by dsimp only; rw [CL.out]; exact hown) ((World.grownBy_alloc _ _ _).trans hgr)
            have H9 := Lib.hid S9
            clear z0 z1 z2 z3 z4 q0 q1 q2 q3 q4 y0 y1 yf zf qf x0 x1 x2 xf hown hgr S9
            obtain ⟨z0, z1, z2, z3, z4⟩ := five_cells o7
            have zf : ∀ o, World.frozen? w7 ⟨w.heap.size + 2, o, none⟩ = false := fun o => frozen_of_row _ _ o _ _ o7
            dsimp only [opC] at z0 z1 z2 z3 z4
            go_wp2_with fail
            go_roundw
            case rel => exact ⟨j + 1, _, _, _, by omega, by go_num, H9.out, G1.out.1, G1.out.2, by omega, by rw [List.length_append, CL.out]; rfl⟩
            case measure => simp [intOf] <;> omega
          · have d4 : decide ((j : Int) ≤ 4) = false := decide_eq_false (by omega)
            have STP := show dL (5 - j) (cnt - j) t = ([], t) by rw [show 5 - j = 0 by omega]; rfl
            have DOP := Lib.hid (show dOp s p = (⟨6, 0, 0, cs, dd⟩, t) by
              have h1 := F1.out
              have h2 := F2.out
              rw [STP] at h1 h2
              rw [DOP7.out, ← h1, ← h2]; simp)
            clear STP F1 F2
            obtain ⟨z0, z1, z2, z3, z4⟩ := five_cells S.out.op
            obtain ⟨q0, q1, q2, q3, q4⟩ := five_cells S.out.res
            obtain ⟨y0, y1, yf⟩ := two_cells S.out.tk
            have zf : ∀ o, World.frozen? wr ⟨w.heap.size + 2, o, none⟩ = false := fun o => frozen_of_row _ _ o _ _ S.out.op
            have qf : ∀ o, World.frozen? wr ⟨w.heap.size, o, none⟩ = false := fun o => frozen_of_row _ _ o _ _ S.out.res
            dsimp only [opC] at z0 z1 z2 z3 z4 q0 q1 q2 q3 q4
            have CK := fun w h => dcheck_any ⟨6, 0, 0, cs, dd⟩ (.slice ao j ca) p w h
            obtain ⟨c, hc⟩ : ∃ c, chkO ⟨6, 0, 0, cs, dd⟩ p = c := ⟨_, rfl⟩
            rw [hc] at CK
            have EK2 := Lib.hid (show decOk s p = (c == 0) by rw [EK.out, DOP.out]; dsimp only; rw [hbad, hc]; rfl)
            rw [hbad] at y1
            have TL := Lib.hid (show (dOp s p).2.l = t.l by rw [DOP.out])
            have OL := Lib.hid (show (dOp s p).1 = ⟨6, 0, 0, cs, dd⟩ by rw [DOP.out])
            unfold opV at CK
            dsimp only at CK
            clear hbad hc
            go_wp2_with fail
            refine (CK _ (css_of_own S.out.row)).mono ?_
            rintro r w9 ⟨rfl, hB9⟩
            have S9 := Lib.hid (S.out.below hB9)
            clear z0 z1 z2 z3 z4 q0 q1 q2 q3 q4 y0 y1 yf zf qf hB9
            obtain ⟨z0, z1, z2, z3, z4⟩ := five_cells S9.out.op
            obtain ⟨q0, q1, q2, q3, q4⟩ := five_cells S9.out.res
            obtain ⟨y0, y1, yf⟩ := two_cells S9.out.tk
            have zf : ∀ o, World.frozen? w9 ⟨w.heap.size + 2, o, none⟩ = false := fun o => frozen_of_row _ _ o _ _ S9.out.op
            have qf : ∀ o, World.frozen? w9 ⟨w.heap.size, o, none⟩ = false := fun o => frozen_of_row _ _ o _ _ S9.out.res
            dsimp only [opC] at z0 z1 z2 z3 z4 q0 q1 q2 q3 q4
            cases hc0 : (c == 0) with
            | true =>
              have hc1 : (c != 0) = false := by simpa using hc0
              have Y := Lib.hid (YES.out (by rw [EK2.out, hc0]))
              have YO := Lib.hid (Y.out.1.trans OL.out)
              have YR := Lib.hid (Y.out.2.1.trans TL.out)
              clear hc0
              go_wp2_with fail
              go_region_held3 (fun w' => w'.cell? ⟨w.heap.size + 2, 0, none⟩ = w9.cell? ⟨w.heap.size + 2, 0, none⟩ ∧ w'.cell? ⟨w.heap.size + 2, 1, none⟩ = w9.cell? ⟨w.heap.size + 2, 1, none⟩ ∧ w'.cell? ⟨w.heap.size + 2, 2, none⟩ = w9.cell? ⟨w.heap.size + 2, 2, none⟩ ∧ w'.cell? ⟨w.heap.size + 2, 3, none⟩ = w9.cell? ⟨w.heap.size + 2, 3, none⟩ ∧ w'.cell? ⟨w.heap.size + 2, 4, none⟩ = w9.cell? ⟨w.heap.size + 2, 4, none⟩ ∧ w'.cell? ⟨w.heap.size + 1, 0, none⟩ = w9.cell? ⟨w.heap.size + 1, 0, none⟩) (go_keep) (fail)
              go_wp2_with fail
              refine ddec_endD (x := ⟨6, 0, 0, cs, dd⟩) (v := (.slice ao j ca)) S9.out.res S9.out.bel (Nat.le_refl _) ?_ YO.out ?_ ?_ (fun V hg => cssTy_of_own (S9.out.row.kept hg (.inr fun e => S9.out.ne (by omega) e.symm)))
              · rfl
              · rw [YR.out]; rfl
              · rw [Y.out.2.2]; rfl
            | false =>
              have hc1 : (c != 0) = true := by simpa using hc0
              have N := Lib.hid (NO.out (by rw [EK2.out, hc0]))
              clear hc0
              go_wp2_with fail
              refine ddec_end (x := zeroOp) (v := .slice none 0 0) S9.out.res S9.out.bel (Nat.le_refl _) ?_ N.out.1 ?_ ?_ (fun V _ => CssTy.nil V)
              · rfl
              · rw [N.out.2.1]; rfl
              · rw [N.out.2.2]; rfl
        · have dc : decide ((j : Int) < cnt) = false := decide_eq_false hc
          have STP := dL_stop (f := 5 - j) (c := cnt - j) (t := t) (by omega)
          have DOP := Lib.hid (show dOp s p = (⟨6, 0, 0, cs, dd⟩, t) by
            have h1 := F1.out
            have h2 := F2.out
            rw [STP] at h1 h2
            rw [DOP7.out, ← h1, ← h2]; simp)
          clear STP F1 F2
          obtain ⟨z0, z1, z2, z3, z4⟩ := five_cells S.out.op
          obtain ⟨q0, q1, q2, q3, q4⟩ := five_cells S.out.res
          obtain ⟨y0, y1, yf⟩ := two_cells S.out.tk
          have zf : ∀ o, World.frozen? wr ⟨w.heap.size + 2, o, none⟩ = false := fun o => frozen_of_row _ _ o _ _ S.out.op
          have qf : ∀ o, World.frozen? wr ⟨w.heap.size, o, none⟩ = false := fun o => frozen_of_row _ _ o _ _ S.out.res
          dsimp only [opC] at z0 z1 z2 z3 z4 q0 q1 q2 q3 q4
          have CK := fun w h => dcheck_any ⟨6, 0, 0, cs, dd⟩ (.slice ao j ca) p w h
          obtain ⟨c, hc⟩ : ∃ c, chkO ⟨6, 0, 0, cs, dd⟩ p = c := ⟨_, rfl⟩
          rw [hc] at CK
          have EK2 := Lib.hid (show decOk s p = (c == 0) by rw [EK.out, DOP.out]; dsimp only; rw [hbad, hc]; rfl)
          rw [hbad] at y1
          have TL := Lib.hid (show (dOp s p).2.l = t.l by rw [DOP.out])
          have OL := Lib.hid (show (dOp s p).1 = ⟨6, 0, 0, cs, dd⟩ by rw [DOP.out])
          unfold opV at CK
          dsimp only at CK
          clear hbad hc
          go_wp2_with fail
          refine (CK _ (css_of_own S.out.row)).mono ?_
          rintro r w9 ⟨rfl, hB9⟩
          have S9 := Lib.hid (S.out.below hB9)
          clear z0 z1 z2 z3 z4 q0 q1 q2 q3 q4 y0 y1 yf zf qf hB9
          obtain ⟨z0, z1, z2, z3, z4⟩ := five_cells S9.out.op
          obtain ⟨q0, q1, q2, q3, q4⟩ := five_cells S9.out.res
          obtain ⟨y0, y1, yf⟩ := two_cells S9.out.tk
          have zf : ∀ o, World.frozen? w9 ⟨w.heap.size + 2, o, none⟩ = false := fun o => frozen_of_row _ _ o _ _ S9.out.op
          have qf : ∀ o, World.frozen? w9 ⟨w.heap.size, o, none⟩ = false := fun o => frozen_of_row _ _ o _ _ S9.out.res
          dsimp only [opC] at z0 z1 z2 z3 z4 q0 q1 q2 q3 q4
          cases hc0 : (c == 0) with
          | true =>
            have hc1 : (c != 0) = false := by simpa using hc0
            have Y := Lib.hid (YES.out (by rw [EK2.out, hc0]))
            have YO := Lib.hid (Y.out.1.trans OL.out)
            have YR := Lib.hid (Y.out.2.1.trans TL.out)
            clear hc0
            go_wp2_with fail
            go_region_held3 (fun w' => w'.cell? ⟨w.heap.size + 2, 0, none⟩ = w9.cell? ⟨w.heap.size + 2, 0, none⟩ ∧ w'.cell? ⟨w.heap.size + 2, 1, none⟩ = w9.cell? ⟨w.heap.size + 2, 1, none⟩ ∧ w'.cell? ⟨w.heap.size + 2, 2, none⟩ = w9.cell? ⟨w.heap.size + 2, 2, none⟩ ∧ w'.cell? ⟨w.heap.size + 2, 3, none⟩ = w9.cell? ⟨w.heap.size + 2, 3, none⟩ ∧ w'.cell? ⟨w.heap.size + 2, 4, none⟩ = w9.cell? ⟨w.heap.size + 2, 4, none⟩ ∧ w'.cell? ⟨w.heap.size + 1, 0, none⟩ = w9.cell? ⟨w.heap.size + 1, 0, none⟩) (go_keep) (fail)
            go_wp2_with fail
            refine ddec_endD (x := ⟨6, 0, 0, cs, dd⟩) (v := (.slice ao j ca)) S9.out.res S9.out.bel (Nat.le_refl _) ?_ YO.out ?_ ?_ (fun V hg => cssTy_of_own (S9.out.row.kept hg (.inr fun e => S9.out.ne (by omega) e.symm)))
            · rfl
            · rw [YR.out]; rfl
            · rw [Y.out.2.2]; rfl
          | false =>
            have hc1 : (c != 0) = true := by simpa using hc0
            have N := Lib.hid (NO.out (by rw [EK2.out, hc0]))
            clear hc0
            go_wp2_with fail
            refine ddec_end (x := zeroOp) (v := .slice none 0 0) S9.out.res S9.out.bel (Nat.le_refl _) ?_ N.out.1 ?_ ?_ (fun V _ => CssTy.nil V)
            · rfl
            · rw [N.out.2.1]; rfl
            · rw [N.out.2.2]; rfl
  · have DOP := Lib.hid (show dOp s p = (⟨k, a, b, [], false⟩, tB) by rw [DO.out, if_neg h6])
    have h6' : (k == 6) = false := by simpa using h6
    clear h6 DO LIM6
    by_cases ha : 0 < la
    · skip
      by_cases hb : 0 < lb
      · skip
        have ea : a = takV t1.l ∧ tA = t1.next := by have h := DA.out; rw [if_pos ha] at h; exact ⟨(Prod.mk.inj h).1, (Prod.mk.inj h).2⟩
        obtain ⟨rfl, rfl⟩ := ea
        have eb : b = takV t1.next.l ∧ tB = t1.next.next := by have h := DB.out; rw [if_pos hb] at h; exact ⟨(Prod.mk.inj h).1, (Prod.mk.inj h).2⟩
        obtain ⟨rfl, rfl⟩ := eb
        clear DA DB
        go_enter Try.func67, Try.ntmps67
        go_wp2_with fail
        refine (T0.out _ K0.out).mono ?_
        rintro r w1 ⟨rfl, ht1, hg1, hs1⟩
        have S1 := Lib.hid (ST.out w1 ht1 hg1 hs1)
        have SZ1 : w1.heap.size = w.heap.size + 2 := by rw [hs1]; simp
        clear ht1 hg1 hs1 K0 T0 ST
        go_wp2_with fail
        refine (LIM.out _).mono ?_
        rintro r w2 ⟨rfl, rfl⟩
        obtain ⟨V1, hV1⟩ : ∃ V, w1.alloc (.cells #[.int .i64 k, .int .i64 0, .int .i64 0, .slice none 0 0, .bool false] 48) = V := ⟨_, rfl⟩
        rw [hV1] at S1 ⊢
        clear hV1 SZ1
        obtain ⟨z0, z1, z2, z3, z4⟩ := five_cells S1.out.op
        obtain ⟨q0, q1, q2, q3, q4⟩ := five_cells S1.out.res
        obtain ⟨y0, y1, yf⟩ := two_cells S1.out.tk
        have zf : ∀ o, World.frozen? V1 ⟨w.heap.size + 2, o, none⟩ = false := fun o => frozen_of_row _ _ o _ _ S1.out.op
        have qf : ∀ o, World.frozen? V1 ⟨w.heap.size, o, none⟩ = false := fun o => frozen_of_row _ _ o _ _ S1.out.res
        dsimp only [opC] at z0 z1 z2 z3 z4 q0 q1 q2 q3 q4
        go_wp2_with fail
        refine (ttake_any t1 (w.heap.size + 1) _ S1.out.tk L1).mono ?_
        rintro r w3 ⟨rfl, ht, hg, hs⟩
        have S3a := Lib.hid (S1.out.take ht hg)
        have S3 := Lib.hid (S3a.out.set (o' := ⟨k, takV t1.l, 0, [], false⟩) 1 (.int .i64 (takV t1.l)) rfl rfl)
        clear z0 z1 z2 z3 z4 q0 q1 q2 q3 q4 y0 y1 yf zf qf ht hg hs
        obtain ⟨z0, z1, z2, z3, z4⟩ := five_cells S3a.out.op
        obtain ⟨q0, q1, q2, q3, q4⟩ := five_cells S3a.out.res
        obtain ⟨y0, y1, yf⟩ := two_cells S3a.out.tk
        have zf : ∀ o, World.frozen? w3 ⟨w.heap.size + 2, o, none⟩ = false := fun o => frozen_of_row _ _ o _ _ S3a.out.op
        have qf : ∀ o, World.frozen? w3 ⟨w.heap.size, o, none⟩ = false := fun o => frozen_of_row _ _ o _ _ S3a.out.res
        dsimp only [opC] at z0 z1 z2 z3 z4 q0 q1 q2 q3 q4
        go_wp2_with fail
        refine (ttake_any t1.next (w.heap.size + 1) _ S3.out.tk LA).mono ?_
        rintro r w4 ⟨rfl, ht, hg, hs⟩
        have S4a := Lib.hid (S3.out.take ht hg)
        have S4 := Lib.hid (S4a.out.set (o' := ⟨k, takV t1.l, takV t1.next.l, [], false⟩) 2 (.int .i64 (takV t1.next.l)) rfl rfl)
        clear z0 z1 z2 z3 z4 q0 q1 q2 q3 q4 y0 y1 yf zf qf ht hg hs
        obtain ⟨z0, z1, z2, z3, z4⟩ := five_cells S4a.out.op
        obtain ⟨q0, q1, q2, q3, q4⟩ := five_cells S4a.out.res
        obtain ⟨y0, y1, yf⟩ := two_cells S4a.out.tk
        have zf : ∀ o, World.frozen? w4 ⟨w.heap.size + 2, o, none⟩ = false := fun o => frozen_of_row _ _ o _ _ S4a.out.op
        have qf : ∀ o, World.frozen? w4 ⟨w.heap.size, o, none⟩ = false := fun o => frozen_of_row _ _ o _ _ S4a.out.res
        dsimp only [opC] at z0 z1 z2 z3 z4 q0 q1 q2 q3 q4

        cases hbad : t1.next.next.bad with
        | true =>
          have N := Lib.hid (NO.out (by rw [EK.out, DOP.out]; dsimp only; rw [hbad]; rfl))
          rw [hbad] at y1
          go_wp2_with fail
          refine ddec_end (x := zeroOp) (v := .slice none 0 0) S4.out.res S4.out.bel (Nat.le_refl _) ?_ N.out.1 ?_ ?_ (fun V _ => CssTy.nil V)
          · rfl
          · rw [N.out.2.1]; rfl
          · rw [N.out.2.2]; rfl
        | false =>
          have CK := fun w h => dcheck_any ⟨k, takV t1.l, takV t1.next.l, [], false⟩ (.slice none 0 0) p w h
          obtain ⟨c, hc⟩ : ∃ c, chkO ⟨k, takV t1.l, takV t1.next.l, [], false⟩ p = c := ⟨_, rfl⟩
          rw [hc] at CK
          have EK2 := Lib.hid (show decOk s p = (c == 0) by rw [EK.out, DOP.out]; dsimp only; rw [hbad, hc]; rfl)
          rw [hbad] at y1
          have TL := Lib.hid (show (dOp s p).2.l = t1.next.next.l by rw [DOP.out])
          have OL := Lib.hid (show (dOp s p).1 = ⟨k, takV t1.l, takV t1.next.l, [], false⟩ by rw [DOP.out])
          unfold opV at CK
          dsimp only at CK
          clear hbad hc
          go_wp2_with fail
          refine (CK _ (css_of_own S4.out.row)).mono ?_
          rintro r w9 ⟨rfl, hB9⟩
          have S9 := Lib.hid (S4.out.below hB9)
          clear z0 z1 z2 z3 z4 q0 q1 q2 q3 q4 y0 y1 yf zf qf hB9
          obtain ⟨z0, z1, z2, z3, z4⟩ := five_cells S9.out.op
          obtain ⟨q0, q1, q2, q3, q4⟩ := five_cells S9.out.res
          obtain ⟨y0, y1, yf⟩ := two_cells S9.out.tk
          have zf : ∀ o, World.frozen? w9 ⟨w.heap.size + 2, o, none⟩ = false := fun o => frozen_of_row _ _ o _ _ S9.out.op
          have qf : ∀ o, World.frozen? w9 ⟨w.heap.size, o, none⟩ = false := fun o => frozen_of_row _ _ o _ _ S9.out.res
          dsimp only [opC] at z0 z1 z2 z3 z4 q0 q1 q2 q3 q4
          cases hc0 : (c == 0) with
          | true =>
            have hc1 : (c != 0) = false := by simpa using hc0
            have Y := Lib.hid (YES.out (by rw [EK2.out, hc0]))
            have YO := Lib.hid (Y.out.1.trans OL.out)
            have YR := Lib.hid (Y.out.2.1.trans TL.out)
            clear hc0
            go_wp2_with fail
            go_region_held3 (fun w' => w'.cell? ⟨w.heap.size + 2, 0, none⟩ = w9.cell? ⟨w.heap.size + 2, 0, none⟩ ∧ w'.cell? ⟨w.heap.size + 2, 1, none⟩ = w9.cell? ⟨w.heap.size + 2, 1, none⟩ ∧ w'.cell? ⟨w.heap.size + 2, 2, none⟩ = w9.cell? ⟨w.heap.size + 2, 2, none⟩ ∧ w'.cell? ⟨w.heap.size + 2, 3, none⟩ = w9.cell? ⟨w.heap.size + 2, 3, none⟩ ∧ w'.cell? ⟨w.heap.size + 2, 4, none⟩ = w9.cell? ⟨w.heap.size + 2, 4, none⟩ ∧ w'.cell? ⟨w.heap.size + 1, 0, none⟩ = w9.cell? ⟨w.heap.size + 1, 0, none⟩) (go_keep) (fail)
            go_wp2_with fail
            refine ddec_endD (x := ⟨k, takV t1.l, takV t1.next.l, [], false⟩) (v := (.slice none 0 0)) S9.out.res S9.out.bel (Nat.le_refl _) ?_ YO.out ?_ ?_ (fun V hg => cssTy_of_own (S9.out.row.kept hg (.inr fun e => S9.out.ne (by omega) e.symm)))
            · rfl
            · rw [YR.out]; rfl
            · rw [Y.out.2.2]; rfl
          | false =>
            have hc1 : (c != 0) = true := by simpa using hc0
            have N := Lib.hid (NO.out (by rw [EK2.out, hc0]))
            clear hc0
            go_wp2_with fail
            refine ddec_end (x := zeroOp) (v := .slice none 0 0) S9.out.res S9.out.bel (Nat.le_refl _) ?_ N.out.1 ?_ ?_ (fun V _ => CssTy.nil V)
            · rfl
            · rw [N.out.2.1]; rfl
            · rw [N.out.2.2]; rfl
      · skip
        have ea : a = takV t1.l ∧ tA = t1.next := by have h := DA.out; rw [if_pos ha] at h; exact ⟨(Prod.mk.inj h).1, (Prod.mk.inj h).2⟩
        obtain ⟨rfl, rfl⟩ := ea
        have eb : b = 0 ∧ tB = t1.next := by have h := DB.out; rw [if_neg hb] at h; exact ⟨(Prod.mk.inj h).1, (Prod.mk.inj h).2⟩
        obtain ⟨rfl, rfl⟩ := eb
        clear DA DB
        go_enter Try.func67, Try.ntmps67
        go_wp2_with fail
        refine (T0.out _ K0.out).mono ?_
        rintro r w1 ⟨rfl, ht1, hg1, hs1⟩
        have S1 := Lib.hid (ST.out w1 ht1 hg1 hs1)
        have SZ1 : w1.heap.size = w.heap.size + 2 := by rw [hs1]; simp
        clear ht1 hg1 hs1 K0 T0 ST
        go_wp2_with fail
        refine (LIM.out _).mono ?_
        rintro r w2 ⟨rfl, rfl⟩
        obtain ⟨V1, hV1⟩ : ∃ V, w1.alloc (.cells #[.int .i64 k, .int .i64 0, .int .i64 0, .slice none 0 0, .bool false] 48) = V := ⟨_, rfl⟩
        rw [hV1] at S1 ⊢
        clear hV1 SZ1
        obtain ⟨z0, z1, z2, z3, z4⟩ := five_cells S1.out.op
        obtain ⟨q0, q1, q2, q3, q4⟩ := five_cells S1.out.res
        obtain ⟨y0, y1, yf⟩ := two_cells S1.out.tk
        have zf : ∀ o, World.frozen? V1 ⟨w.heap.size + 2, o, none⟩ = false := fun o => frozen_of_row _ _ o _ _ S1.out.op
        have qf : ∀ o, World.frozen? V1 ⟨w.heap.size, o, none⟩ = false := fun o => frozen_of_row _ _ o _ _ S1.out.res
        dsimp only [opC] at z0 z1 z2 z3 z4 q0 q1 q2 q3 q4
        go_wp2_with fail
        refine (ttake_any t1 (w.heap.size + 1) _ S1.out.tk L1).mono ?_
        rintro r w3 ⟨rfl, ht, hg, hs⟩
        have S3a := Lib.hid (S1.out.take ht hg)
        have S3 := Lib.hid (S3a.out.set (o' := ⟨k, takV t1.l, 0, [], false⟩) 1 (.int .i64 (takV t1.l)) rfl rfl)
        clear z0 z1 z2 z3 z4 q0 q1 q2 q3 q4 y0 y1 yf zf qf ht hg hs
        obtain ⟨z0, z1, z2, z3, z4⟩ := five_cells S3a.out.op
        obtain ⟨q0, q1, q2, q3, q4⟩ := five_cells S3a.out.res
        obtain ⟨y0, y1, yf⟩ := two_cells S3a.out.tk
        have zf : ∀ o, World.frozen? w3 ⟨w.heap.size + 2, o, none⟩ = false := fun o => frozen_of_row _ _ o _ _ S3a.out.op
        have qf : ∀ o, World.frozen? w3 ⟨w.heap.size, o, none⟩ = false := fun o => frozen_of_row _ _ o _ _ S3a.out.res
        dsimp only [opC] at z0 z1 z2 z3 z4 q0 q1 q2 q3 q4

        cases hbad : t1.next.bad with
        | true =>
          have N := Lib.hid (NO.out (by rw [EK.out, DOP.out]; dsimp only; rw [hbad]; rfl))
          rw [hbad] at y1
          go_wp2_with fail
          refine ddec_end (x := zeroOp) (v := .slice none 0 0) S3.out.res S3.out.bel (Nat.le_refl _) ?_ N.out.1 ?_ ?_ (fun V _ => CssTy.nil V)
          · rfl
          · rw [N.out.2.1]; rfl
          · rw [N.out.2.2]; rfl
        | false =>
          have CK := fun w h => dcheck_any ⟨k, takV t1.l, 0, [], false⟩ (.slice none 0 0) p w h
          obtain ⟨c, hc⟩ : ∃ c, chkO ⟨k, takV t1.l, 0, [], false⟩ p = c := ⟨_, rfl⟩
          rw [hc] at CK
          have EK2 := Lib.hid (show decOk s p = (c == 0) by rw [EK.out, DOP.out]; dsimp only; rw [hbad, hc]; rfl)
          rw [hbad] at y1
          have TL := Lib.hid (show (dOp s p).2.l = t1.next.l by rw [DOP.out])
          have OL := Lib.hid (show (dOp s p).1 = ⟨k, takV t1.l, 0, [], false⟩ by rw [DOP.out])
          unfold opV at CK
          dsimp only at CK
          clear hbad hc
          go_wp2_with fail
          refine (CK _ (css_of_own S3.out.row)).mono ?_
          rintro r w9 ⟨rfl, hB9⟩
          have S9 := Lib.hid (S3.out.below hB9)
          clear z0 z1 z2 z3 z4 q0 q1 q2 q3 q4 y0 y1 yf zf qf hB9
          obtain ⟨z0, z1, z2, z3, z4⟩ := five_cells S9.out.op
          obtain ⟨q0, q1, q2, q3, q4⟩ := five_cells S9.out.res
          obtain ⟨y0, y1, yf⟩ := two_cells S9.out.tk
          have zf : ∀ o, World.frozen? w9 ⟨w.heap.size + 2, o, none⟩ = false := fun o => frozen_of_row _ _ o _ _ S9.out.op
          have qf : ∀ o, World.frozen? w9 ⟨w.heap.size, o, none⟩ = false := fun o => frozen_of_row _ _ o _ _ S9.out.res
          dsimp only [opC] at z0 z1 z2 z3 z4 q0 q1 q2 q3 q4
          cases hc0 : (c == 0) with
          | true =>
            have hc1 : (c != 0) = false := by simpa using hc0
            have Y := Lib.hid (YES.out (by rw [EK2.out, hc0]))
            have YO := Lib.hid (Y.out.1.trans OL.out)
            have YR := Lib.hid (Y.out.2.1.trans TL.out)
            clear hc0
            go_wp2_with fail
            go_region_held3 (fun w' => w'.cell? ⟨w.heap.size + 2, 0, none⟩ = w9.cell? ⟨w.heap.size + 2, 0, none⟩ ∧ w'.cell? ⟨w.heap.size + 2, 1, none⟩ = w9.cell? ⟨w.heap.size + 2, 1, none⟩ ∧ w'.cell? ⟨w.heap.size + 2, 2, none⟩ = w9.cell? ⟨w.heap.size + 2, 2, none⟩ ∧ w'.cell? ⟨w.heap.size + 2, 3, none⟩ = w9.cell? ⟨w.heap.size + 2, 3, none⟩ ∧ w'.cell? ⟨w.heap.size + 2, 4, none⟩ = w9.cell? ⟨w.heap.size + 2, 4, none⟩ ∧ w'.cell? ⟨w.heap.size + 1, 0, none⟩ = w9.cell? ⟨w.heap.size + 1, 0, none⟩) (go_keep) (fail)
            go_wp2_with fail
            refine ddec_endD (x := ⟨k, takV t1.l, 0, [], false⟩) (v := (.slice none 0 0)) S9.out.res S9.out.bel (Nat.le_refl _) ?_ YO.out ?_ ?_ (fun V hg => cssTy_of_own (S9.out.row.kept hg (.inr fun e => S9.out.ne (by omega) e.symm)))
            · rfl
            · rw [YR.out]; rfl
            · rw [Y.out.2.2]; rfl
          | false =>
            have hc1 : (c != 0) = true := by simpa using hc0
            have N := Lib.hid (NO.out (by rw [EK2.out, hc0]))
            clear hc0
            go_wp2_with fail
            refine ddec_end (x := zeroOp) (v := .slice none 0 0) S9.out.res S9.out.bel (Nat.le_refl _) ?_ N.out.1 ?_ ?_ (fun V _ => CssTy.nil V)
            · rfl
            · rw [N.out.2.1]; rfl
            · rw [N.out.2.2]; rfl
    · skip
      by_cases hb : 0 < lb
      · skip
        have ea : a = 0 ∧ tA = t1 := by have h := DA.out; rw [if_neg ha] at h; exact ⟨(Prod.mk.inj h).1, (Prod.mk.inj h).2⟩
        obtain ⟨rfl, rfl⟩ := ea
        have eb : b = takV tA.l ∧ tB = tA.next := by have h := DB.out; rw [if_pos hb] at h; exact ⟨(Prod.mk.inj h).1, (Prod.mk.inj h).2⟩
        obtain ⟨rfl, rfl⟩ := eb
        clear DA DB
        go_enter Try.func67, Try.ntmps67
        go_wp2_with fail
        refine (T0.out _ K0.out).mono ?_
        rintro r w1 ⟨rfl, ht1, hg1, hs1⟩
        have S1 := Lib.hid (ST.out w1 ht1 hg1 hs1)
        have SZ1 : w1.heap.size = w.heap.size + 2 := by rw [hs1]; simp
        clear ht1 hg1 hs1 K0 T0 ST
        go_wp2_with fail
        refine (LIM.out _).mono ?_
        rintro r w2 ⟨rfl, rfl⟩
        obtain ⟨V1, hV1⟩ : ∃ V, w1.alloc (.cells #[.int .i64 k, .int .i64 0, .int .i64 0, .slice none 0 0, .bool false] 48) = V := ⟨_, rfl⟩
        rw [hV1] at S1 ⊢
        clear hV1 SZ1
        obtain ⟨z0, z1, z2, z3, z4⟩ := five_cells S1.out.op
        obtain ⟨q0, q1, q2, q3, q4⟩ := five_cells S1.out.res
        obtain ⟨y0, y1, yf⟩ := two_cells S1.out.tk
        have zf : ∀ o, World.frozen? V1 ⟨w.heap.size + 2, o, none⟩ = false := fun o => frozen_of_row _ _ o _ _ S1.out.op
        have qf : ∀ o, World.frozen? V1 ⟨w.heap.size, o, none⟩ = false := fun o => frozen_of_row _ _ o _ _ S1.out.res
        dsimp only [opC] at z0 z1 z2 z3 z4 q0 q1 q2 q3 q4
        go_wp2_with fail
        refine (ttake_any tA (w.heap.size + 1) _ S1.out.tk LA).mono ?_
        rintro r w4 ⟨rfl, ht, hg, hs⟩
        have S4a := Lib.hid (S1.out.take ht hg)
        have S4 := Lib.hid (S4a.out.set (o' := ⟨k, 0, takV tA.l, [], false⟩) 2 (.int .i64 (takV tA.l)) rfl rfl)
        clear z0 z1 z2 z3 z4 q0 q1 q2 q3 q4 y0 y1 yf zf qf ht hg hs
        obtain ⟨z0, z1, z2, z3, z4⟩ := five_cells S4a.out.op
        obtain ⟨q0, q1, q2, q3, q4⟩ := five_cells S4a.out.res
        obtain ⟨y0, y1, yf⟩ := two_cells S4a.out.tk
        have zf : ∀ o, World.frozen? w4 ⟨w.heap.size + 2, o, none⟩ = false := fun o => frozen_of_row _ _ o _ _ S4a.out.op
        have qf : ∀ o, World.frozen? w4 ⟨w.heap.size, o, none⟩ = false := fun o => frozen_of_row _ _ o _ _ S4a.out.res
        dsimp only [opC] at z0 z1 z2 z3 z4 q0 q1 q2 q3 q4

        cases hbad : tA.next.bad with
        | true =>
          have N := Lib.hid (NO.out (by rw [EK.out, DOP.out]; dsimp only; rw [hbad]; rfl))
          rw [hbad] at y1
          go_wp2_with fail
          refine ddec_end (x := zeroOp) (v := .slice none 0 0) S4.out.res S4.out.bel (Nat.le_refl _) ?_ N.out.1 ?_ ?_ (fun V _ => CssTy.nil V)
          · rfl
          · rw [N.out.2.1]; rfl
          · rw [N.out.2.2]; rfl
        | false =>
          have CK := fun w h => dcheck_any ⟨k, 0, takV tA.l, [], false⟩ (.slice none 0 0) p w h
          obtain ⟨c, hc⟩ : ∃ c, chkO ⟨k, 0, takV tA.l, [], false⟩ p = c := ⟨_, rfl⟩
          rw [hc] at CK
          have EK2 := Lib.hid (show decOk s p = (c == 0) by rw [EK.out, DOP.out]; dsimp only; rw [hbad, hc]; rfl)
          rw [hbad] at y1
          have TL := Lib.hid (show (dOp s p).2.l = tA.next.l by rw [DOP.out])
          have OL := Lib.hid (show (dOp s p).1 = ⟨k, 0, takV tA.l, [], false⟩ by rw [DOP.out])
          unfold opV at CK
          dsimp only at CK
          clear hbad hc
          go_wp2_with fail
          refine (CK _ (css_of_own S4.out.row)).mono ?_
          rintro r w9 ⟨rfl, hB9⟩
          have S9 := Lib.hid (S4.out.below hB9)
          clear z0 z1 z2 z3 z4 q0 q1 q2 q3 q4 y0 y1 yf zf qf hB9
          obtain ⟨z0, z1, z2, z3, z4⟩ := five_cells S9.out.op
          obtain ⟨q0, q1, q2, q3, q4⟩ := five_cells S9.out.res
          obtain ⟨y0, y1, yf⟩ := two_cells S9.out.tk
          have zf : ∀ o, World.frozen? w9 ⟨w.heap.size + 2, o, none⟩ = false := fun o => frozen_of_row _ _ o _ _ S9.out.op
          have qf : ∀ o, World.frozen? w9 ⟨w.heap.size, o, none⟩ = false := fun o => frozen_of_row _ _ o _ _ S9.out.res
          dsimp only [opC] at z0 z1 z2 z3 z4 q0 q1 q2 q3 q4
          cases hc0 : (c == 0) with
          | true =>
            have hc1 : (c != 0) = false := by simpa using hc0
            have Y := Lib.hid (YES.out (by rw [EK2.out, hc0]))
            have YO := Lib.hid (Y.out.1.trans OL.out)
            have YR := Lib.hid (Y.out.2.1.trans TL.out)
            clear hc0
            go_wp2_with fail
            go_region_held3 (fun w' => w'.cell? ⟨w.heap.size + 2, 0, none⟩ = w9.cell? ⟨w.heap.size + 2, 0, none⟩ ∧ w'.cell? ⟨w.heap.size + 2, 1, none⟩ = w9.cell? ⟨w.heap.size + 2, 1, none⟩ ∧ w'.cell? ⟨w.heap.size + 2, 2, none⟩ = w9.cell? ⟨w.heap.size + 2, 2, none⟩ ∧ w'.cell? ⟨w.heap.size + 2, 3, none⟩ = w9.cell? ⟨w.heap.size + 2, 3, none⟩ ∧ w'.cell? ⟨w.heap.size + 2, 4, none⟩ = w9.cell? ⟨w.heap.size + 2, 4, none⟩ ∧ w'.cell? ⟨w.heap.size + 1, 0, none⟩ = w9.cell? ⟨w.heap.size + 1, 0, none⟩) (go_keep) (fail)
            go_wp2_with fail
            refine ddec_endD (x := ⟨k, 0, takV tA.l, [], false⟩) (v := (.slice none 0 0)) S9.out.res S9.out.bel (Nat.le_refl _) ?_ YO.out ?_ ?_ (fun V hg => cssTy_of_own (S9.out.row.kept hg (.inr fun e => S9.out.ne (by omega) e.symm)))
            · rfl
            · rw [YR.out]; rfl
            · rw [Y.out.2.2]; rfl
          | false =>
            have hc1 : (c != 0) = true := by simpa using hc0
            have N := Lib.hid (NO.out (by rw [EK2.out, hc0]))
            clear hc0
            go_wp2_with fail
            refine ddec_end (x := zeroOp) (v := .slice none 0 0) S9.out.res S9.out.bel (Nat.le_refl _) ?_ N.out.1 ?_ ?_ (fun V _ => CssTy.nil V)
            · rfl
            · rw [N.out.2.1]; rfl
            · rw [N.out.2.2]; rfl
      · skip
        have ea : a = 0 ∧ tA = t1 := by have h := DA.out; rw [if_neg ha] at h; exact ⟨(Prod.mk.inj h).1, (Prod.mk.inj h).2⟩
        obtain ⟨rfl, rfl⟩ := ea
        have eb : b = 0 ∧ tB = tA := by have h := DB.out; rw [if_neg hb] at h; exact ⟨(Prod.mk.inj h).1, (Prod.mk.inj h).2⟩
        obtain ⟨rfl, rfl⟩ := eb
        clear DA DB
        go_enter Try.func67, Try.ntmps67
        go_wp2_with fail
        refine (T0.out _ K0.out).mono ?_
        rintro r w1 ⟨rfl, ht1, hg1, hs1⟩
        have S1 := Lib.hid (ST.out w1 ht1 hg1 hs1)
        have SZ1 : w1.heap.size = w.heap.size + 2 := by rw [hs1]; simp
        clear ht1 hg1 hs1 K0 T0 ST
        go_wp2_with fail
        refine (LIM.out _).mono ?_
        rintro r w2 ⟨rfl, rfl⟩
        obtain ⟨V1, hV1⟩ : ∃ V, w1.alloc (.cells #[.int .i64 k, .int .i64 0, .int .i64 0, .slice none 0 0, .bool false] 48) = V := ⟨_, rfl⟩
        rw [hV1] at S1 ⊢
        clear hV1 SZ1
        obtain ⟨z0, z1, z2, z3, z4⟩ := five_cells S1.out.op
        obtain ⟨q0, q1, q2, q3, q4⟩ := five_cells S1.out.res
        obtain ⟨y0, y1, yf⟩ := two_cells S1.out.tk
        have zf : ∀ o, World.frozen? V1 ⟨w.heap.size + 2, o, none⟩ = false := fun o => frozen_of_row _ _ o _ _ S1.out.op
        have qf : ∀ o, World.frozen? V1 ⟨w.heap.size, o, none⟩ = false := fun o => frozen_of_row _ _ o _ _ S1.out.res
        dsimp only [opC] at z0 z1 z2 z3 z4 q0 q1 q2 q3 q4

        cases hbad : tB.bad with
        | true =>
          have N := Lib.hid (NO.out (by rw [EK.out, DOP.out]; dsimp only; rw [hbad]; rfl))
          rw [hbad] at y1
          go_wp2_with fail
          refine ddec_end (x := zeroOp) (v := .slice none 0 0) S1.out.res S1.out.bel (Nat.le_refl _) ?_ N.out.1 ?_ ?_ (fun V _ => CssTy.nil V)
          · rfl
          · rw [N.out.2.1]; rfl
          · rw [N.out.2.2]; rfl
        | false =>
          have CK := fun w h => dcheck_any ⟨k, 0, 0, [], false⟩ (.slice none 0 0) p w h
          obtain ⟨c, hc⟩ : ∃ c, chkO ⟨k, 0, 0, [], false⟩ p = c := ⟨_, rfl⟩
          rw [hc] at CK
          have EK2 := Lib.hid (show decOk s p = (c == 0) by rw [EK.out, DOP.out]; dsimp only; rw [hbad, hc]; rfl)
          rw [hbad] at y1
          have TL := Lib.hid (show (dOp s p).2.l = tB.l by rw [DOP.out])
          have OL := Lib.hid (show (dOp s p).1 = ⟨k, 0, 0, [], false⟩ by rw [DOP.out])
          unfold opV at CK
          dsimp only at CK
          clear hbad hc
          go_wp2_with fail
          refine (CK _ (css_of_own S1.out.row)).mono ?_
          rintro r w9 ⟨rfl, hB9⟩
          have S9 := Lib.hid (S1.out.below hB9)
          clear z0 z1 z2 z3 z4 q0 q1 q2 q3 q4 y0 y1 yf zf qf hB9
          obtain ⟨z0, z1, z2, z3, z4⟩ := five_cells S9.out.op
          obtain ⟨q0, q1, q2, q3, q4⟩ := five_cells S9.out.res
          obtain ⟨y0, y1, yf⟩ := two_cells S9.out.tk
          have zf : ∀ o, World.frozen? w9 ⟨w.heap.size + 2, o, none⟩ = false := fun o => frozen_of_row _ _ o _ _ S9.out.op
          have qf : ∀ o, World.frozen? w9 ⟨w.heap.size, o, none⟩ = false := fun o => frozen_of_row _ _ o _ _ S9.out.res
          dsimp only [opC] at z0 z1 z2 z3 z4 q0 q1 q2 q3 q4
          cases hc0 : (c == 0) with
          | true =>
            have hc1 : (c != 0) = false := by simpa using hc0
            have Y := Lib.hid (YES.out (by rw [EK2.out, hc0]))
            have YO := Lib.hid (Y.out.1.trans OL.out)
            have YR := Lib.hid (Y.out.2.1.trans TL.out)
            clear hc0
            go_wp2_with fail
            go_region_held3 (fun w' => w'.cell? ⟨w.heap.size + 2, 0, none⟩ = w9.cell? ⟨w.heap.size + 2, 0, none⟩ ∧ w'.cell? ⟨w.heap.size + 2, 1, none⟩ = w9.cell? ⟨w.heap.size + 2, 1, none⟩ ∧ w'.cell? ⟨w.heap.size + 2, 2, none⟩ = w9.cell? ⟨w.heap.size + 2, 2, none⟩ ∧ w'.cell? ⟨w.heap.size + 2, 3, none⟩ = w9.cell? ⟨w.heap.size + 2, 3, none⟩ ∧ w'.cell? ⟨w.heap.size + 2, 4, none⟩ = w9.cell? ⟨w.heap.size + 2, 4, none⟩ ∧ w'.cell? ⟨w.heap.size + 1, 0, none⟩ = w9.cell? ⟨w.heap.size + 1, 0, none⟩) (go_keep) (fail)
            go_wp2_with fail
            refine ddec_endD (x := ⟨k, 0, 0, [], false⟩) (v := (.slice none 0 0)) S9.out.res S9.out.bel (Nat.le_refl _) ?_ YO.out ?_ ?_ (fun V hg => cssTy_of_own (S9.out.row.kept hg (.inr fun e => S9.out.ne (by omega) e.symm)))
            · rfl
            · rw [YR.out]; rfl
            · rw [Y.out.2.2]; rfl
          | false =>
            have hc1 : (c != 0) = true := by simpa using hc0
            have N := Lib.hid (NO.out (by rw [EK2.out, hc0]))
            clear hc0
            go_wp2_with fail
            refine ddec_end (x := zeroOp) (v := .slice none 0 0) S9.out.res S9.out.bel (Nat.le_refl _) ?_ N.out.1 ?_ ?_ (fun V _ => CssTy.nil V)
            · rfl
            · rw [N.out.2.1]; rfl
            · rw [N.out.2.2]; rfl

def DecPost (s : List UInt8) (p : Int) (w : World) (r : Ending) (w' : World) : Prop :=
  ∃ v, r = .returned (.tuple #[opV v (decO s p), bs (decOR s p), .int .i64 (decOF s p)]) ∧ CssOf w' v (decO s p).cs ∧ Below w.heap.size w w'
theorem ddecode_any (s : List UInt8) (p : Int) (w : World) (hl : s.length ≤ 140737488351232) : Calls Try.prog 67 #[bs s, .int .i64 p] w (DecPost s p w) :=
  (ddecodeT_any s p w hl).mono fun _ _ ⟨v, h1, h2, h3⟩ => ⟨v, h1, h2.1, h3⟩
end Go.Proofs.Ytpefjcmaggimhaa

