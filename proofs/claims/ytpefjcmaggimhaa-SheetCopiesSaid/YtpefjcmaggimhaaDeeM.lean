
/-
  The reference's Decode (layer 4). (Printed by gen04m.py.)
-/
import Derived.Test.YtpefjcmaggimhaaDeeL
namespace Go.Proofs.Ytpefjcmaggimhaa
open Go.RowKit
set_option linter.unusedVariables false
set_option linter.unusedSimpArgs false
set_option maxRecDepth 100000

set_option maxHeartbeats 8000000 in
theorem rddecodeT_any (s : List UInt8) (p : Int) (w : World) (hl : s.length ≤ 140737488351232) : Calls Try.prog 41 #[bs s, .int .i64 p] w (RDecPostT s p w) := by
  have R0 : (w.alloc (.cells (gotC (.slice none 0 0) zeroOp 0) 83)).heap[w.heap.size]? = some (Obj.cells (gotC (.slice none 0 0) zeroOp 0) 83 (0, 0)) := heap_alloc_new _ _
  have RR0 := Lib.hid R0
  by_cases hp1 : p < 1
  · have E := Lib.hid (show rdO s p = zeroOp ∧ rdZ s p = 0 ∧ rdF s p = 1 by
      have e : rdX s p = none := by unfold rdX; rw [if_pos (.inl hp1)]
      exact ⟨by simp [rdO, e], by simp [rdZ, e], by unfold rdF; rw [if_pos (.inl hp1)]⟩)
    clear R0
    go_enter Try.func41, Try.ntmps41
    go_wp2_with fail
    refine rdec_at (x := zeroOp) (v := .slice none 0 0) (z := 0) RR0.out (below1 _ _) ?_ E.out.1 E.out.2.1 ?_ (CssTy.nil _)
    · rfl
    · rw [E.out.2.2]; rfl
  by_cases hp2 : 8 < p
  · have E := Lib.hid (show rdO s p = zeroOp ∧ rdZ s p = 0 ∧ rdF s p = 1 by
      have e : rdX s p = none := by unfold rdX; rw [if_pos (.inr hp2)]
      exact ⟨by simp [rdO, e], by simp [rdZ, e], by unfold rdF; rw [if_pos (.inr hp2)]⟩)
    have d1 : decide (p < 1) = false := decide_eq_false hp1
    clear R0 hp1
    go_enter Try.func41, Try.ntmps41
    go_wp2_with fail
    refine rdec_at (x := zeroOp) (v := .slice none 0 0) (z := 0) RR0.out (below1 _ _) ?_ E.out.1 E.out.2.1 ?_ (CssTy.nil _)
    · rfl
    · rw [E.out.2.2]; rfl
  have d1 : decide (p < 1) = false := decide_eq_false hp1
  have d2 : decide (8 < p) = false := decide_eq_false hp2
  have EX := Lib.hid (show rdX s p = rDec s p by unfold rdX; rw [if_neg (by omega)])
  have NO : Hid (rDec s p = none → rdO s p = zeroOp ∧ rdZ s p = 0 ∧ rdF s p = 4) := Lib.hid (fun e => by
    have e2 := EX.out.trans e
    exact ⟨by simp [rdO, e2], by simp [rdZ, e2], by unfold rdF; rw [if_neg (by omega), e2]; rfl⟩)
  have YES : Hid (∀ o l, rDec s p = some (o, l) → rdO s p = o ∧ rdZ s p = s.length - l.length ∧ rdF s p = 0) := Lib.hid (fun o l e => by
    have e2 := EX.out.trans e
    exact ⟨by simp [rdO, e2], by simp [rdZ, e2], by unfold rdF; rw [if_neg (by omega), e2]; rfl⟩)
  have hp1' : 1 ≤ p := by omega
  have HP := Lib.hid hp1'
  clear hp1 hp2 R0 hp1'
  have K0 := Lib.hid (show RnAt s s 0 (w.heap.size + 1) ((w.alloc (.cells (gotC (.slice none 0 0) zeroOp 0) 83)).alloc (.cells (gotC (.slice none 0 0) zeroOp 0) 83)) by
    have h := heap_alloc_new (w.alloc (.cells (gotC (.slice none 0 0) zeroOp 0) 83)) (.cells (gotC (.slice none 0 0) zeroOp 0) 83)
    rw [World.size_alloc] at h
    exact ⟨h, rfl, Nat.zero_le _⟩)
  have D := Lib.hid (show rDec s p = if numV s < 1 ∨ 9 < numV s then none else if numV s = 6 then rDec6 (numV s) (rdA s p).1 (rdB s p).1 (rdB s p).2 p else rFin ⟨numV s, (rdA s p).1, (rdB s p).1, [], false⟩ (rdB s p).2 p from rfl)
  have DA := Lib.hid (show rdA s p = if 0 < limA (numV s) p then (numV (numR s), numR (numR s)) else (0, numR s) from rfl)
  have DB := Lib.hid (show rdB s p = if 0 < limB (numV s) ∧ 0 ≤ (rdA s p).1 then (numV (rdA s p).2, numR (rdA s p).2) else (0, (rdA s p).2) from rfl)
  have T0 : Hid (∀ W, RnAt s s 0 (w.heap.size + 1) W → Calls Try.prog 69 #[bs s, .pointer (some ⟨w.heap.size + 1, 0, none⟩)] W fun r w' => r = .returned (.int .i64 (numV s)) ∧ RnAt s (numR s) (0 + numZ s) (w.heap.size + 1) w' ∧ W.grownBy w' (some (w.heap.size + 1))) := Lib.hid (fun W h => number_any s s 0 _ W h hl)
  have LIM6 : Hid (numV s = 6 → limA (numV s) p = 0 ∧ limB (numV s) = 0) := Lib.hid (fun h => by rw [h]; exact ⟨rfl, rfl⟩)
  have LAB : Hid (0 < limB (numV s) → 0 < limA (numV s) p) := Lib.hid (fun h => by
    unfold limB at h
    split at h
    · rename_i hk; rw [hk]; show (0 : Int) < 8; decide
    · split at h
      · rename_i hk; rw [hk]; show (0 : Int) < 8; decide
      · omega)
  have ROW := Lib.hid (fun h1 h9 w => row_any (numV s) h1 h9 w)
  have DTA := Lib.hid (fun h1 h9 => rA_dot (k := numV s) (p := p) h1 h9 HP.out)
  have DTB := Lib.hid (fun h1 h9 => rB_dot (k := numV s) h1 h9)
  obtain ⟨k, hk⟩ : ∃ k, numV s = k := ⟨_, rfl⟩
  obtain ⟨l1, hl1⟩ : ∃ k, numR s = k := ⟨_, rfl⟩
  obtain ⟨z1, hz1⟩ : ∃ k, 0 + numZ s = k := ⟨_, rfl⟩
  obtain ⟨⟨a, l2⟩, hA⟩ : ∃ t, rdA s p = t := ⟨_, rfl⟩
  obtain ⟨⟨b, l3⟩, hB⟩ : ∃ t, rdB s p = t := ⟨_, rfl⟩
  obtain ⟨la, hla⟩ : ∃ x, limA (numV s) p = x := ⟨_, rfl⟩
  obtain ⟨lb, hlb⟩ : ∃ x, limB (numV s) = x := ⟨_, rfl⟩
  rw [hla, hlb] at LIM6 LAB
  rw [hla] at DA DTA
  rw [hlb] at DB DTB
  rw [hk] at D T0 LIM6 ROW DTA DTB
  rw [hl1] at DA T0
  rw [hz1] at T0
  rw [hA] at DA DB D
  rw [hB] at DB D
  dsimp only at DB D
  obtain ⟨sa, hsa⟩ : ∃ x, rA k = x := ⟨_, rfl⟩
  obtain ⟨sb, hsb⟩ : ∃ x, rB k = x := ⟨_, rfl⟩
  rw [hsa, hsb] at ROW DTA DTB
  clear hk hl1 hz1 hA hB hla hlb EX hsa hsb HP
  have RES : Hid (∀ w1 : World, RnAt s l1 z1 (w.heap.size + 1) w1 → ((w.alloc (.cells (gotC (.slice none 0 0) zeroOp 0) 83)).alloc (.cells (gotC (.slice none 0 0) zeroOp 0) 83)).grownBy w1 (some (w.heap.size + 1)) →
      w1.heap[w.heap.size]? = some (Obj.cells (gotC (.slice none 0 0) zeroOp 0) 83 (0, 0)) ∧ Below w.heap.size w w1 ∧ w.heap.size + 2 ≤ w1.heap.size ∧ RcSt s l1 z1 ⟨k, 0, 0, [], false⟩ (.slice none 0 0) w1.heap.size w (w1.alloc (.cells #[.int .i64 k, .int .i64 0, .int .i64 0, .slice none 0 0, .bool false] 48))) := Lib.hid (fun w1 h1 h2 => by
    have b0 : Below w.heap.size w w1 := (((Below.refl _ w).alloc (Nat.le_refl _) _).alloc (by simp) _).grown h2 (by simp; omega) (fun k hk => by have := Option.some.inj hk; omega)
    have r0 : w1.heap[w.heap.size]? = some (Obj.cells (gotC (.slice none 0 0) zeroOp 0) 83 (0, 0)) := by
      rw [h2.block _ (by simp; omega) (by intro e; have := Option.some.inj e; omega), heap_alloc_old _ _ (by simp)]
      exact heap_alloc_new _ _
    have hs := h2.size
    rw [World.size_alloc, World.size_alloc] at hs
    exact ⟨r0, b0, hs, ⟨by rw [heap_alloc_old _ _ (lt_of_heap r0)]; exact r0, h1.below (below1 _ _), heap_alloc_new w1 _, World.ownsRow_nil _ _ _ _, b0.alloc b0.size _, hs⟩⟩)

  by_cases hk1 : k < 1
  · have dk1 : decide (k < 1) = true := decide_eq_true hk1
    go_enter Try.func41, Try.ntmps41
    go_wp2_with fail
    refine (T0.out _ K0.out).mono ?_
    rintro r w1 ⟨rfl, hn1, hg1⟩
    have S0 := Lib.hid (RES.out w1 hn1 hg1)
    clear hn1 hg1 K0 T0 RES
    obtain ⟨q0, q1, q2, q3, q4, q5, qf⟩ := six_cells S0.out.1
    try dsimp only [gotC] at q0 q1 q2 q3 q4 q5
    have N := Lib.hid (NO.out (by rw [D.out, if_pos (.inl hk1)]))
    go_wp2_with fail
    refine rdec_end (x := zeroOp) (v := .slice none 0 0) (z := 0) S0.out.1 S0.out.2.1 (Nat.le_refl _) ?_ N.out.1 N.out.2.1 ?_ (fun V _ => CssTy.nil V)
    · rfl
    · rw [N.out.2.2]; rfl
  by_cases hk9 : 9 < k
  · have dk1 : decide (k < 1) = false := decide_eq_false hk1
    have dk9 : decide (9 < k) = true := decide_eq_true hk9
    go_enter Try.func41, Try.ntmps41
    go_wp2_with fail
    refine (T0.out _ K0.out).mono ?_
    rintro r w1 ⟨rfl, hn1, hg1⟩
    have S0 := Lib.hid (RES.out w1 hn1 hg1)
    clear hn1 hg1 K0 T0 RES
    obtain ⟨q0, q1, q2, q3, q4, q5, qf⟩ := six_cells S0.out.1
    try dsimp only [gotC] at q0 q1 q2 q3 q4 q5
    have N := Lib.hid (NO.out (by rw [D.out, if_pos (.inr hk9)]))
    go_wp2_with fail
    refine rdec_end (x := zeroOp) (v := .slice none 0 0) (z := 0) S0.out.1 S0.out.2.1 (Nat.le_refl _) ?_ N.out.1 N.out.2.1 ?_ (fun V _ => CssTy.nil V)
    · rfl
    · rw [N.out.2.2]; rfl
  have dk1 : decide (k < 1) = false := decide_eq_false hk1
  have dk9 : decide (9 < k) = false := decide_eq_false hk9
  have RW := Lib.hid (ROW.out (by omega) (by omega))
  have da := DTA.out (by omega) (by omega)
  have db := DTB.out (by omega) (by omega)
  have D2 := Lib.hid (show rDec s p = if k = 6 then rDec6 k a b l3 p else rFin ⟨k, a, b, [], false⟩ l3 p by rw [D.out, if_neg (by omega)])
  clear D ROW DTA DTB hk1 hk9
  by_cases h6 : k = 6
  · skip
    obtain ⟨rfl, rfl⟩ := LIM6.out h6
    have D3 := Lib.hid (show rDec s p = rDec6 k a b l3 p by rw [D2.out, if_pos h6])
    subst h6
    have ea : a = 0 ∧ l2 = l1 := by have h := DA.out; rw [if_neg (by decide)] at h; exact ⟨(Prod.mk.inj h).1, (Prod.mk.inj h).2⟩
    obtain ⟨rfl, rfl⟩ := ea
    have eb : b = 0 ∧ l3 = l2 := by have h := DB.out; rw [if_neg (by decide)] at h; exact ⟨(Prod.mk.inj h).1, (Prod.mk.inj h).2⟩
    obtain ⟨rfl, rfl⟩ := eb
    rw [decide_eq_false (by decide)] at da db
    obtain ⟨i0, hi, hz0, hzz1, hz2⟩ := info_parts csinfo
    have D4 := Lib.hid (show rDec s p = if numV l3 < 0 ∨ 1 < numV l3 then none else if numV (numR l3) < 0 ∨ 4 < numV (numR l3) then none else (rCs (numV (numR l3)).toNat (numR (numR l3))).bind fun x => rFin ⟨6, 0, 0, x.1, numV l3 == 1⟩ x.2 p from D3.out)
    clear D2 D3 DA DB LIM6 LAB
    go_enter Try.func41, Try.ntmps41
    go_wp2_with fail
    refine (T0.out _ K0.out).mono ?_
    rintro r w1 ⟨rfl, hn1, hg1⟩
    have S0 := Lib.hid (RES.out w1 hn1 hg1)
    clear hn1 hg1 K0 T0 RES
    obtain ⟨q0, q1, q2, q3, q4, q5, qf⟩ := six_cells S0.out.1
    try dsimp only [gotC] at q0 q1 q2 q3 q4 q5
    clear q0 q1 q2 q3 q4 q5 qf
    go_wp2_with fail
    refine (RW.out _).mono ?_
    rintro r w2 ⟨rfl, hB2⟩
    have S2 := Lib.hid (S0.out.2.2.2.below hB2)
    obtain ⟨O, hO⟩ : ∃ O, w1.heap.size = O := ⟨_, rfl⟩
    rw [hO] at S2 ⊢
    have low := S2.out.low
    have n1 : ¬ O = w.heap.size := by omega
    have n2 : ¬ O = w.heap.size + 1 := by omega
    have n3 : ¬ w.heap.size = O := by omega
    have n4 : ¬ w.heap.size + 1 = O := by omega
    clear hB2 S0 hO RW
    obtain ⟨o0, o1, o2, o3, o4⟩ := five_cells S2.out.op
    have of : ∀ o, World.frozen? w2 ⟨O, o, none⟩ = false := fun o => frozen_of_row _ _ o _ _ S2.out.op
    obtain ⟨q0, q1, q2, q3, q4, q5, qf⟩ := six_cells S2.out.res
    obtain ⟨y0, y1, y2, y3, y4, y5, yf⟩ := six_cells S2.out.rn.blk
    try dsimp only [opC, gotC] at o0 o1 o2 o3 o4 q0 q1 q2 q3 q4 q5
    go_wp2_with fail
    refine (number_any s l3 z1 (w.heap.size + 1) _ S2.out.rn hl).mono ?_
    rintro r w3 ⟨rfl, hn, hg⟩
    have S3 := Lib.hid (S2.out.num hn hg)
    clear o0 o1 o2 o3 o4 of q0 q1 q2 q3 q4 q5 qf y0 y1 y2 y3 y4 y5 yf hn hg
    obtain ⟨o0, o1, o2, o3, o4⟩ := five_cells S3.out.op
    have of : ∀ o, World.frozen? w3 ⟨O, o, none⟩ = false := fun o => frozen_of_row _ _ o _ _ S3.out.op
    obtain ⟨q0, q1, q2, q3, q4, q5, qf⟩ := six_cells S3.out.res
    obtain ⟨y0, y1, y2, y3, y4, y5, yf⟩ := six_cells S3.out.rn.blk
    try dsimp only [opC, gotC] at o0 o1 o2 o3 o4 q0 q1 q2 q3 q4 q5
    by_cases e1 : numV l3 < 0
    · have d3 : decide (numV l3 < 0) = true := decide_eq_true e1
      have N := Lib.hid (NO.out (by rw [D4.out, if_pos (.inl e1)]))
      go_wp2_with fail
      refine rdec_end (x := zeroOp) (v := .slice none 0 0) (z := 0) S3.out.res S3.out.bel (Nat.le_refl _) ?_ N.out.1 N.out.2.1 ?_ (fun V _ => CssTy.nil V)
      · rfl
      · rw [N.out.2.2]; rfl
    by_cases e2 : 1 < numV l3
    · have d3 : decide (numV l3 < 0) = false := decide_eq_false e1
      have d4 : decide (1 < numV l3) = true := decide_eq_true e2
      have N := Lib.hid (NO.out (by rw [D4.out, if_pos (.inr e2)]))
      go_wp2_with fail
      refine rdec_end (x := zeroOp) (v := .slice none 0 0) (z := 0) S3.out.res S3.out.bel (Nat.le_refl _) ?_ N.out.1 N.out.2.1 ?_ (fun V _ => CssTy.nil V)
      · rfl
      · rw [N.out.2.2]; rfl
    have d3 : decide (numV l3 < 0) = false := decide_eq_false e1
    have d4 : decide (1 < numV l3) = false := decide_eq_false e2
    have D5 := Lib.hid (show rDec s p = if numV (numR l3) < 0 ∨ 4 < numV (numR l3) then none else (rCs (numV (numR l3)).toNat (numR (numR l3))).bind fun x => rFin ⟨6, 0, 0, x.1, numV l3 == 1⟩ x.2 p by rw [D4.out, if_neg (by omega)])
    obtain ⟨dd, hdd⟩ : ∃ d, (numV l3 == 1) = d := ⟨_, rfl⟩
    have S4 := Lib.hid (S3.out.set (o' := ⟨6, 0, 0, [], dd⟩) 4 (.bool dd) rfl rfl)
    rw [hdd] at D5
    clear D4 e1 e2
    go_wp2_with fail
    refine (number_any s (numR l3) (z1 + numZ l3) (w.heap.size + 1) _ S4.out.rn hl).mono ?_
    rintro r w5 ⟨rfl, hn, hg⟩
    have S5 := Lib.hid (S4.out.num hn hg)
    clear o0 o1 o2 o3 o4 of q0 q1 q2 q3 q4 q5 qf y0 y1 y2 y3 y4 y5 yf hn hg
    obtain ⟨o0, o1, o2, o3, o4⟩ := five_cells S5.out.op
    have of : ∀ o, World.frozen? w5 ⟨O, o, none⟩ = false := fun o => frozen_of_row _ _ o _ _ S5.out.op
    obtain ⟨q0, q1, q2, q3, q4, q5, qf⟩ := six_cells S5.out.res
    obtain ⟨y0, y1, y2, y3, y4, y5, yf⟩ := six_cells S5.out.rn.blk
    try dsimp only [opC, gotC] at o0 o1 o2 o3 o4 q0 q1 q2 q3 q4 q5
    obtain ⟨cnt, hcnt⟩ : ∃ c, numV (numR l3) = c := ⟨_, rfl⟩
    obtain ⟨l5, hl5⟩ : ∃ c, numR (numR l3) = c := ⟨_, rfl⟩
    obtain ⟨z5, hz5⟩ : ∃ c, z1 + numZ l3 + numZ (numR l3) = c := ⟨_, rfl⟩
    rw [hcnt, hl5] at D5
    rw [hl5, hz5] at S5
    rw [hcnt]
    rw [hz5] at y5
    clear hdd hcnt hl5 hz5 S4 S3 S2 d3 d4
    by_cases e1 : cnt < 0
    · have d3 : decide (cnt < 0) = true := decide_eq_true e1
      have N := Lib.hid (NO.out (by rw [D5.out, if_pos (.inl e1)]))
      go_wp2_with fail
      refine rdec_end (x := zeroOp) (v := .slice none 0 0) (z := 0) S5.out.res S5.out.bel (Nat.le_refl _) ?_ N.out.1 N.out.2.1 ?_ (fun V _ => CssTy.nil V)
      · rfl
      · rw [N.out.2.2]; rfl
    by_cases e2 : 4 < cnt
    · have d3 : decide (cnt < 0) = false := decide_eq_false e1
      have d4 : decide (4 < cnt) = true := decide_eq_true e2
      have N := Lib.hid (NO.out (by rw [D5.out, if_pos (.inr e2)]))
      go_wp2_with fail
      refine rdec_end (x := zeroOp) (v := .slice none 0 0) (z := 0) S5.out.res S5.out.bel (Nat.le_refl _) ?_ N.out.1 N.out.2.1 ?_ (fun V _ => CssTy.nil V)
      · rfl
      · rw [N.out.2.2]; rfl
    have d3 : decide (cnt < 0) = false := decide_eq_false e1
    have d4 : decide (4 < cnt) = false := decide_eq_false e2
    obtain ⟨nn, hnn⟩ := Int.eq_ofNat_of_zero_le (show 0 ≤ cnt by omega)
    subst hnn
    have D6 := Lib.hid (show rDec s p = (rCs nn l5).bind fun x => rFin ⟨6, 0, 0, x.1, dd⟩ x.2 p by rw [D5.out, if_neg (by omega)]; rfl)
    have hn4 : nn ≤ 4 := by omega
    clear D5 e1 e2
    go_wp2_with fail
    go_loopw [12] (fun i wr => ∃ (j : Nat) (l : List UInt8) (z : Nat) (cs : List Cs) (v : Value), j ≤ nn ∧ i = .int .i64 j ∧ RcSt s l z ⟨6, 0, 0, cs, dd⟩ v O w wr ∧ rCs nn l5 = (rCs (nn - j) l).map (fun r => (cs ++ r.1, r.2)) ∧ cs.length = j) (fun i _ => nn - (intOf i).toNat)
    case atStart => exact ⟨0, l5, z5, [], .slice none 0 0, by omega, rfl, S5.out, by simp, rfl⟩
    case round =>
      obtain ⟨j, l, z, cs, v, hj, rfl, hst, hf1, hcl⟩ := hrel
      have hrow := hst.row
      dsimp only at hrow
      obtain ⟨ao, ca, hv⟩ := owns_slice hrow
      rw [hcl] at hv
      subst hv
      have S := Lib.hid hst
      have F1 := Lib.hid hf1
      have CL := Lib.hid hcl
      clear hst hf1 hcl hrow S5 o0 o1 o2 o3 o4 of q0 q1 q2 q3 q4 q5 qf y0 y1 y2 y3 y4 y5 yf
      obtain ⟨o0, o1, o2, o3, o4⟩ := five_cells S.out.op
      have of : ∀ o, World.frozen? wr ⟨O, o, none⟩ = false := fun o => frozen_of_row _ _ o _ _ S.out.op
      obtain ⟨q0, q1, q2, q3, q4, q5, qf⟩ := six_cells S.out.res
      obtain ⟨y0, y1, y2, y3, y4, y5, yf⟩ := six_cells S.out.rn.blk
      try dsimp only [opC, gotC] at o0 o1 o2 o3 o4 q0 q1 q2 q3 q4 q5
      by_cases hlt : j < nn
      · have hlt' : (j : Int) < (nn : Int) := by omega
        have F2 := Lib.hid (show rCs nn l5 = (rCs (nn - (j + 1) + 1) l).map (fun r => (cs ++ r.1, r.2)) by rw [F1.out, show nn - (j + 1) + 1 = nn - j by omega])
        have F3 := Lib.hid (show rCs (nn - (j + 1) + 1) l = if numV l < 0 ∨ 1 < numV l then none else if numV (numR l) < 0 then none else if numV (numR (numR l)) < 0 then none else (rCs (nn - (j + 1)) (numR (numR (numR l)))).map fun r => (⟨numV l == 1, numV (numR l), numV (numR (numR l))⟩ :: r.1, r.2) from rfl)
        clear F1
        go_wp2_with fail
        refine (number_any s l z (w.heap.size + 1) _ S.out.rn hl).mono ?_
        rintro r w6 ⟨rfl, hn, hg⟩
        have S6 := Lib.hid (S.out.num hn hg)
        clear o0 o1 o2 o3 o4 of q0 q1 q2 q3 q4 q5 qf y0 y1 y2 y3 y4 y5 yf hn hg
        obtain ⟨o0, o1, o2, o3, o4⟩ := five_cells S6.out.op
        have of : ∀ o, World.frozen? w6 ⟨O, o, none⟩ = false := fun o => frozen_of_row _ _ o _ _ S6.out.op
        obtain ⟨q0, q1, q2, q3, q4, q5, qf⟩ := six_cells S6.out.res
        obtain ⟨y0, y1, y2, y3, y4, y5, yf⟩ := six_cells S6.out.rn.blk
        try dsimp only [opC, gotC] at o0 o1 o2 o3 o4 q0 q1 q2 q3 q4 q5
        by_cases e1 : numV l < 0
        · have d3 : decide (numV l < 0) = true := decide_eq_true e1
          have N := Lib.hid (NO.out (by rw [D6.out, F2.out, F3.out, if_pos (.inl e1)]; rfl))
          go_wp2_with fail
          refine rdec_end (x := zeroOp) (v := .slice none 0 0) (z := 0) S6.out.res S6.out.bel (Nat.le_refl _) ?_ N.out.1 N.out.2.1 ?_ (fun V _ => CssTy.nil V)
          · rfl
          · rw [N.out.2.2]; rfl
        by_cases e2 : 1 < numV l
        · have d3 : decide (numV l < 0) = false := decide_eq_false e1
          have d4 : decide (1 < numV l) = true := decide_eq_true e2
          have N := Lib.hid (NO.out (by rw [D6.out, F2.out, F3.out, if_pos (.inr e2)]; rfl))
          go_wp2_with fail
          refine rdec_end (x := zeroOp) (v := .slice none 0 0) (z := 0) S6.out.res S6.out.bel (Nat.le_refl _) ?_ N.out.1 N.out.2.1 ?_ (fun V _ => CssTy.nil V)
          · rfl
          · rw [N.out.2.2]; rfl
        have d5 : decide (numV l < 0) = false := decide_eq_false e1
        have d6 : decide (1 < numV l) = false := decide_eq_false e2
        have F4 := Lib.hid (show rCs (nn - (j + 1) + 1) l = if numV (numR l) < 0 then none else if numV (numR (numR l)) < 0 then none else (rCs (nn - (j + 1)) (numR (numR (numR l)))).map fun r => (⟨numV l == 1, numV (numR l), numV (numR (numR l))⟩ :: r.1, r.2) by rw [F3.out, if_neg (by omega)])
        clear F3 e1 e2
        go_wp2_with fail
        refine (number_any s (numR l) (z + numZ l) (w.heap.size + 1) _ S6.out.rn hl).mono ?_
        rintro r w7 ⟨rfl, hn, hg⟩
        have S7 := Lib.hid (S6.out.num hn hg)
        clear o0 o1 o2 o3 o4 of q0 q1 q2 q3 q4 q5 qf y0 y1 y2 y3 y4 y5 yf hn hg
        obtain ⟨o0, o1, o2, o3, o4⟩ := five_cells S7.out.op
        have of : ∀ o, World.frozen? w7 ⟨O, o, none⟩ = false := fun o => frozen_of_row _ _ o _ _ S7.out.op
        obtain ⟨q0, q1, q2, q3, q4, q5, qf⟩ := six_cells S7.out.res
        obtain ⟨y0, y1, y2, y3, y4, y5, yf⟩ := six_cells S7.out.rn.blk
        try dsimp only [opC, gotC] at o0 o1 o2 o3 o4 q0 q1 q2 q3 q4 q5
        by_cases e1 : numV (numR l) < 0
        · have d7 : decide (numV (numR l) < 0) = true := decide_eq_true e1
          have N := Lib.hid (NO.out (by rw [D6.out, F2.out, F4.out, if_pos e1]; rfl))
          go_wp2_with fail
          refine rdec_end (x := zeroOp) (v := .slice none 0 0) (z := 0) S7.out.res S7.out.bel (Nat.le_refl _) ?_ N.out.1 N.out.2.1 ?_ (fun V _ => CssTy.nil V)
          · rfl
          · rw [N.out.2.2]; rfl
        have d7 : decide (numV (numR l) < 0) = false := decide_eq_false e1
        have F5 := Lib.hid (show rCs (nn - (j + 1) + 1) l = if numV (numR (numR l)) < 0 then none else (rCs (nn - (j + 1)) (numR (numR (numR l)))).map fun r => (⟨numV l == 1, numV (numR l), numV (numR (numR l))⟩ :: r.1, r.2) by rw [F4.out, if_neg e1])
        clear F4
        go_wp2_with fail
        refine (number_any s (numR (numR l)) (z + numZ l + numZ (numR l)) (w.heap.size + 1) _ S7.out.rn hl).mono ?_
        rintro r w8 ⟨rfl, hn, hg⟩
        have S8 := Lib.hid (S7.out.num hn hg)
        clear o0 o1 o2 o3 o4 of q0 q1 q2 q3 q4 q5 qf y0 y1 y2 y3 y4 y5 yf hn hg
        obtain ⟨o0, o1, o2, o3, o4⟩ := five_cells S8.out.op
        have of : ∀ o, World.frozen? w8 ⟨O, o, none⟩ = false := fun o => frozen_of_row _ _ o _ _ S8.out.op
        obtain ⟨q0, q1, q2, q3, q4, q5, qf⟩ := six_cells S8.out.res
        obtain ⟨y0, y1, y2, y3, y4, y5, yf⟩ := six_cells S8.out.rn.blk
        try dsimp only [opC, gotC] at o0 o1 o2 o3 o4 q0 q1 q2 q3 q4 q5
        by_cases e3 : numV (numR (numR l)) < 0
        · have d8 : decide (numV (numR (numR l)) < 0) = true := decide_eq_true e3
          have N := Lib.hid (NO.out (by rw [D6.out, F2.out, F5.out, if_pos e3]; rfl))
          go_wp2_with fail
          refine rdec_end (x := zeroOp) (v := .slice none 0 0) (z := 0) S8.out.res S8.out.bel (Nat.le_refl _) ?_ N.out.1 N.out.2.1 ?_ (fun V _ => CssTy.nil V)
          · rfl
          · rw [N.out.2.2]; rfl
        have d8 : decide (numV (numR (numR l)) < 0) = false := decide_eq_false e3
        have F6 := Lib.hid (show rCs nn l5 = (rCs (nn - (j + 1)) (numR (numR (numR l)))).map (fun r => ((cs ++ [(⟨numV l == 1, numV (numR l), numV (numR (numR l))⟩ : Cs)]) ++ r.1, r.2)) by
          rw [F2.out, F5.out, if_neg e3, Option.map_map]
          congr 1
          funext r
          simp)
        clear F5 F2 e1 e3
        obtain ⟨sd, hsd⟩ : ∃ x, (numV l == 1) = x := ⟨_, rfl⟩
        obtain ⟨ch, hch⟩ : ∃ x, numV (numR l) = x := ⟨_, rfl⟩
        obtain ⟨va, hva⟩ : ∃ x, numV (numR (numR l)) = x := ⟨_, rfl⟩
        rw [hsd, hch, hva] at F6
        rw [hch] at d7 ⊢
        rw [hva] at d8 ⊢
        clear hch hva
        have SZ8 := S8.out.bel.size
        have SZ8b := S8.out.low
        have SZ8c := lt_of_heap S8.out.op
        have ROW8 := Lib.hid (show World.ownsRow w8 (w.heap.size + 2) 50 3 (.slice ao j ca) j (csCells cs) by have h := S8.out.row; dsimp only at h; rw [CL.out] at h; exact h)
        go_wp2_with (at_builtin; refine wpList_append_own _ rfl _ _ 46 rfl (w.heap.size + 2) 50 i0 _ 3 24 Try.underlying46 hi hz0 hzz1 hz2 rfl (by decide) _ _ _ rfl (show World.ownsRow _ _ _ _ _ _ _ from ROW8.out.alloc _) ⟨w8.heap.size, 0, none⟩ 1 1 (csC ⟨sd, ch, va⟩).toList rfl rfl ?c1 ?c2 ?c3 ?c4 ?c5 ?_)
        case c1 => exact fun i u hu => range_lit w8 (csC ⟨sd, ch, va⟩).toList 50 i u hu
        case c2 => exact csC_one _
        case c3 => unfold maxLen; omega
        case c4 => omega
        case c5 => simp; omega
        intro v' w10 hown hgr _
        obtain ⟨ao', ca', rfl⟩ := owns_slice hown
        obtain ⟨o10, SA⟩ := S8.out.app (c := ⟨sd, ch, va⟩) (v' := .slice ao' (j + 1) ca') (w' := w10) (by dsimp only; rw [CL.out]; exact hown) ((World.grownBy_alloc _ _ _).trans hgr)
        have HA := Lib.hid SA
        clear o0 o1 o2 o3 o4 of q0 q1 q2 q3 q4 q5 qf y0 y1 y2 y3 y4 y5 yf hown hgr SA
        obtain ⟨o0, o1, o2, o3, o4⟩ := five_cells o10
        have of : ∀ o, World.frozen? w10 ⟨O, o, none⟩ = false := fun o => frozen_of_row _ _ o _ _ o10
        try dsimp only [opC] at o0 o1 o2 o3 o4
        go_wp2_with fail
        go_roundw
        case rel => exact ⟨j + 1, _, _, _, _, by omega, by go_num, HA.out, F6.out, by rw [List.length_append, CL.out]; rfl⟩
        case measure => simp [intOf] <;> omega
      · have hge : (nn : Int) ≤ j := by omega
        have F2 := Lib.hid (show rCs nn l5 = some (cs, l) by rw [F1.out, show nn - j = 0 by omega]; simp [rCs])
        clear F1 hlt
        have FN := Lib.hid (show rDec s p = if chkO ⟨6, 0, 0, cs, dd⟩ p = 0 then some (⟨6, 0, 0, cs, dd⟩, l) else none from by rw [D6.out, F2.out]; rfl)
        have CK := fun w h => rdcheck_any ⟨6, 0, 0, cs, dd⟩ (.slice ao j ca) p w h
        obtain ⟨c, hc⟩ : ∃ c, chkO ⟨6, 0, 0, cs, dd⟩ p = c := ⟨_, rfl⟩
        rw [hc] at CK FN
        unfold opV at CK
        dsimp only at CK
        clear hc
        go_wp2_with fail
        refine (CK _ (css_of_own S.out.row)).mono ?_
        rintro r w9 ⟨rfl, hB9⟩
        have S9 := Lib.hid (S.out.below hB9)
        clear o0 o1 o2 o3 o4 of q0 q1 q2 q3 q4 q5 qf y0 y1 y2 y3 y4 y5 yf hB9
        obtain ⟨o0, o1, o2, o3, o4⟩ := five_cells S9.out.op
        have of : ∀ o, World.frozen? w9 ⟨O, o, none⟩ = false := fun o => frozen_of_row _ _ o _ _ S9.out.op
        obtain ⟨q0, q1, q2, q3, q4, q5, qf⟩ := six_cells S9.out.res
        obtain ⟨y0, y1, y2, y3, y4, y5, yf⟩ := six_cells S9.out.rn.blk
        try dsimp only [opC, gotC] at o0 o1 o2 o3 o4 q0 q1 q2 q3 q4 q5
        by_cases hc0 : c = 0
        · have hc1 : (c != 0) = false := by simpa using hc0
          have Y := Lib.hid (YES.out _ _ (by rw [FN.out, if_pos hc0]))
          have ZE := Lib.hid (show rdZ s p = z by
            rw [Y.out.2.1, S9.out.rn.drop, List.length_drop]
            have := S9.out.rn.le
            omega)
          clear hc0
          go_wp2_with fail
          go_region_held3 (fun w' => w'.cell? ⟨O, 0, none⟩ = w9.cell? ⟨O, 0, none⟩ ∧ w'.cell? ⟨O, 1, none⟩ = w9.cell? ⟨O, 1, none⟩ ∧ w'.cell? ⟨O, 2, none⟩ = w9.cell? ⟨O, 2, none⟩ ∧ w'.cell? ⟨O, 3, none⟩ = w9.cell? ⟨O, 3, none⟩ ∧ w'.cell? ⟨O, 4, none⟩ = w9.cell? ⟨O, 4, none⟩ ∧ w'.cell? ⟨w.heap.size + 1, 5, none⟩ = w9.cell? ⟨w.heap.size + 1, 5, none⟩) (go_keep) (fail)
          go_wp2_with fail
          refine rdec_endD (x := ⟨6, 0, 0, cs, dd⟩) (v := (.slice ao j ca)) (z := z) S9.out.res S9.out.bel (Nat.le_refl _) ?_ Y.out.1 ZE.out ?_ (fun V hg => cssTy_of_own (S9.out.row.kept hg (.inr fun e => S9.out.ne (by omega) e.symm)))
          · rfl
          · rw [Y.out.2.2]; rfl
        · have hc1 : (c != 0) = true := by simpa using hc0
          have N := Lib.hid (NO.out (by rw [FN.out, if_neg hc0]))
          clear hc0
          go_wp2_with fail
          refine rdec_end (x := zeroOp) (v := .slice none 0 0) (z := 0) S9.out.res S9.out.bel (Nat.le_refl _) ?_ N.out.1 N.out.2.1 ?_ (fun V _ => CssTy.nil V)
          · rfl
          · rw [N.out.2.2]; rfl
  have h6' : (k == 6) = false := by simpa using h6
  have D3 := Lib.hid (show rDec s p = rFin ⟨k, a, b, [], false⟩ l3 p by rw [D2.out, if_neg h6])
  clear D2 h6 LIM6
  by_cases ha : 0 < la
  · have ea : a = numV l1 ∧ l2 = numR l1 := by have h := DA.out; rw [if_pos ha] at h; exact ⟨(Prod.mk.inj h).1, (Prod.mk.inj h).2⟩
    obtain ⟨rfl, rfl⟩ := ea
    rw [decide_eq_true ha] at da
    clear ha DA LAB
    by_cases hb : 0 < lb
    · rw [decide_eq_true hb] at db
      by_cases hn : 0 ≤ numV l1
      · have eb : b = numV (numR l1) ∧ l3 = numR (numR l1) := by have h := DB.out; rw [if_pos ⟨hb, hn⟩] at h; exact ⟨(Prod.mk.inj h).1, (Prod.mk.inj h).2⟩
        obtain ⟨rfl, rfl⟩ := eb
        have dn : decide (0 ≤ numV l1) = true := decide_eq_true hn
        clear DB hb
        go_enter Try.func41, Try.ntmps41
        go_wp2_with fail
        refine (T0.out _ K0.out).mono ?_
        rintro r w1 ⟨rfl, hn1, hg1⟩
        have S0 := Lib.hid (RES.out w1 hn1 hg1)
        clear hn1 hg1 K0 T0 RES
        obtain ⟨q0, q1, q2, q3, q4, q5, qf⟩ := six_cells S0.out.1
        try dsimp only [gotC] at q0 q1 q2 q3 q4 q5
        clear q0 q1 q2 q3 q4 q5 qf
        go_wp2_with fail
        refine (RW.out _).mono ?_
        rintro r w2 ⟨rfl, hB2⟩
        have S2 := Lib.hid (S0.out.2.2.2.below hB2)
        obtain ⟨O, hO⟩ : ∃ O, w1.heap.size = O := ⟨_, rfl⟩
        rw [hO] at S2 ⊢
        have low := S2.out.low
        have n1 : ¬ O = w.heap.size := by omega
        have n2 : ¬ O = w.heap.size + 1 := by omega
        have n3 : ¬ w.heap.size = O := by omega
        have n4 : ¬ w.heap.size + 1 = O := by omega
        clear hB2 S0 hO RW
        obtain ⟨o0, o1, o2, o3, o4⟩ := five_cells S2.out.op
        have of : ∀ o, World.frozen? w2 ⟨O, o, none⟩ = false := fun o => frozen_of_row _ _ o _ _ S2.out.op
        obtain ⟨q0, q1, q2, q3, q4, q5, qf⟩ := six_cells S2.out.res
        obtain ⟨y0, y1, y2, y3, y4, y5, yf⟩ := six_cells S2.out.rn.blk
        try dsimp only [opC, gotC] at o0 o1 o2 o3 o4 q0 q1 q2 q3 q4 q5
        go_wp2_with fail
        refine (number_any s l1 z1 (w.heap.size + 1) _ S2.out.rn hl).mono ?_
        rintro r w3 ⟨rfl, hn, hg⟩
        have S3 := Lib.hid (S2.out.num hn hg)
        clear o0 o1 o2 o3 o4 of q0 q1 q2 q3 q4 q5 qf y0 y1 y2 y3 y4 y5 yf hn hg
        obtain ⟨o0, o1, o2, o3, o4⟩ := five_cells S3.out.op
        have of : ∀ o, World.frozen? w3 ⟨O, o, none⟩ = false := fun o => frozen_of_row _ _ o _ _ S3.out.op
        obtain ⟨q0, q1, q2, q3, q4, q5, qf⟩ := six_cells S3.out.res
        obtain ⟨y0, y1, y2, y3, y4, y5, yf⟩ := six_cells S3.out.rn.blk
        try dsimp only [opC, gotC] at o0 o1 o2 o3 o4 q0 q1 q2 q3 q4 q5
        have S4 := Lib.hid (S3.out.set (o' := ⟨k, numV l1, 0, [], false⟩) 1 (.int .i64 (numV l1)) rfl rfl)
        go_wp2_with fail
        refine (number_any s (numR l1) (z1 + numZ l1) (w.heap.size + 1) _ S4.out.rn hl).mono ?_
        rintro r w5 ⟨rfl, hn, hg⟩
        have S5 := Lib.hid (S4.out.num hn hg)
        clear o0 o1 o2 o3 o4 of q0 q1 q2 q3 q4 q5 qf y0 y1 y2 y3 y4 y5 yf hn hg
        obtain ⟨o0, o1, o2, o3, o4⟩ := five_cells S5.out.op
        have of : ∀ o, World.frozen? w5 ⟨O, o, none⟩ = false := fun o => frozen_of_row _ _ o _ _ S5.out.op
        obtain ⟨q0, q1, q2, q3, q4, q5, qf⟩ := six_cells S5.out.res
        obtain ⟨y0, y1, y2, y3, y4, y5, yf⟩ := six_cells S5.out.rn.blk
        try dsimp only [opC, gotC] at o0 o1 o2 o3 o4 q0 q1 q2 q3 q4 q5
        have S6 := Lib.hid (S5.out.set (o' := ⟨k, numV l1, numV (numR l1), [], false⟩) 2 (.int .i64 (numV (numR l1))) rfl rfl)
        have FN := Lib.hid (show rDec s p = if chkO ⟨k, numV l1, numV (numR l1), [], false⟩ p = 0 then some (⟨k, numV l1, numV (numR l1), [], false⟩, (numR (numR l1))) else none from D3.out)
        have CK := fun w h => rdcheck_any ⟨k, numV l1, numV (numR l1), [], false⟩ (.slice none 0 0) p w h
        obtain ⟨c, hc⟩ : ∃ c, chkO ⟨k, numV l1, numV (numR l1), [], false⟩ p = c := ⟨_, rfl⟩
        rw [hc] at CK FN
        unfold opV at CK
        dsimp only at CK
        clear hc
        go_wp2_with fail
        refine (CK _ (css_of_own S6.out.row)).mono ?_
        rintro r w9 ⟨rfl, hB9⟩
        have S9 := Lib.hid (S6.out.below hB9)
        clear o0 o1 o2 o3 o4 of q0 q1 q2 q3 q4 q5 qf y0 y1 y2 y3 y4 y5 yf hB9
        obtain ⟨o0, o1, o2, o3, o4⟩ := five_cells S9.out.op
        have of : ∀ o, World.frozen? w9 ⟨O, o, none⟩ = false := fun o => frozen_of_row _ _ o _ _ S9.out.op
        obtain ⟨q0, q1, q2, q3, q4, q5, qf⟩ := six_cells S9.out.res
        obtain ⟨y0, y1, y2, y3, y4, y5, yf⟩ := six_cells S9.out.rn.blk
        try dsimp only [opC, gotC] at o0 o1 o2 o3 o4 q0 q1 q2 q3 q4 q5
        by_cases hc0 : c = 0
        · have hc1 : (c != 0) = false := by simpa using hc0
          have Y := Lib.hid (YES.out _ _ (by rw [FN.out, if_pos hc0]))
          have ZE := Lib.hid (show rdZ s p = (z1 + numZ l1 + numZ (numR l1)) by
            rw [Y.out.2.1, S9.out.rn.drop, List.length_drop]
            have := S9.out.rn.le
            omega)
          clear hc0
          go_wp2_with fail
          go_region_held3 (fun w' => w'.cell? ⟨O, 0, none⟩ = w9.cell? ⟨O, 0, none⟩ ∧ w'.cell? ⟨O, 1, none⟩ = w9.cell? ⟨O, 1, none⟩ ∧ w'.cell? ⟨O, 2, none⟩ = w9.cell? ⟨O, 2, none⟩ ∧ w'.cell? ⟨O, 3, none⟩ = w9.cell? ⟨O, 3, none⟩ ∧ w'.cell? ⟨O, 4, none⟩ = w9.cell? ⟨O, 4, none⟩ ∧ w'.cell? ⟨w.heap.size + 1, 5, none⟩ = w9.cell? ⟨w.heap.size + 1, 5, none⟩) (go_keep) (fail)
          go_wp2_with fail
          refine rdec_endD (x := ⟨k, numV l1, numV (numR l1), [], false⟩) (v := (.slice none 0 0)) (z := (z1 + numZ l1 + numZ (numR l1))) S9.out.res S9.out.bel (Nat.le_refl _) ?_ Y.out.1 ZE.out ?_ (fun V hg => cssTy_of_own (S9.out.row.kept hg (.inr fun e => S9.out.ne (by omega) e.symm)))
          · rfl
          · rw [Y.out.2.2]; rfl
        · have hc1 : (c != 0) = true := by simpa using hc0
          have N := Lib.hid (NO.out (by rw [FN.out, if_neg hc0]))
          clear hc0
          go_wp2_with fail
          refine rdec_end (x := zeroOp) (v := .slice none 0 0) (z := 0) S9.out.res S9.out.bel (Nat.le_refl _) ?_ N.out.1 N.out.2.1 ?_ (fun V _ => CssTy.nil V)
          · rfl
          · rw [N.out.2.2]; rfl
      · have eb : b = 0 ∧ l3 = numR l1 := by have h := DB.out; rw [if_neg (fun h => hn h.2)] at h; exact ⟨(Prod.mk.inj h).1, (Prod.mk.inj h).2⟩
        obtain ⟨rfl, rfl⟩ := eb
        have dn : decide (0 ≤ numV l1) = false := decide_eq_false hn
        clear DB hb
        go_enter Try.func41, Try.ntmps41
        go_wp2_with fail
        refine (T0.out _ K0.out).mono ?_
        rintro r w1 ⟨rfl, hn1, hg1⟩
        have S0 := Lib.hid (RES.out w1 hn1 hg1)
        clear hn1 hg1 K0 T0 RES
        obtain ⟨q0, q1, q2, q3, q4, q5, qf⟩ := six_cells S0.out.1
        try dsimp only [gotC] at q0 q1 q2 q3 q4 q5
        clear q0 q1 q2 q3 q4 q5 qf
        go_wp2_with fail
        refine (RW.out _).mono ?_
        rintro r w2 ⟨rfl, hB2⟩
        have S2 := Lib.hid (S0.out.2.2.2.below hB2)
        obtain ⟨O, hO⟩ : ∃ O, w1.heap.size = O := ⟨_, rfl⟩
        rw [hO] at S2 ⊢
        have low := S2.out.low
        have n1 : ¬ O = w.heap.size := by omega
        have n2 : ¬ O = w.heap.size + 1 := by omega
        have n3 : ¬ w.heap.size = O := by omega
        have n4 : ¬ w.heap.size + 1 = O := by omega
        clear hB2 S0 hO RW
        obtain ⟨o0, o1, o2, o3, o4⟩ := five_cells S2.out.op
        have of : ∀ o, World.frozen? w2 ⟨O, o, none⟩ = false := fun o => frozen_of_row _ _ o _ _ S2.out.op
        obtain ⟨q0, q1, q2, q3, q4, q5, qf⟩ := six_cells S2.out.res
        obtain ⟨y0, y1, y2, y3, y4, y5, yf⟩ := six_cells S2.out.rn.blk
        try dsimp only [opC, gotC] at o0 o1 o2 o3 o4 q0 q1 q2 q3 q4 q5
        go_wp2_with fail
        refine (number_any s l1 z1 (w.heap.size + 1) _ S2.out.rn hl).mono ?_
        rintro r w3 ⟨rfl, hn, hg⟩
        have S3 := Lib.hid (S2.out.num hn hg)
        clear o0 o1 o2 o3 o4 of q0 q1 q2 q3 q4 q5 qf y0 y1 y2 y3 y4 y5 yf hn hg
        obtain ⟨o0, o1, o2, o3, o4⟩ := five_cells S3.out.op
        have of : ∀ o, World.frozen? w3 ⟨O, o, none⟩ = false := fun o => frozen_of_row _ _ o _ _ S3.out.op
        obtain ⟨q0, q1, q2, q3, q4, q5, qf⟩ := six_cells S3.out.res
        obtain ⟨y0, y1, y2, y3, y4, y5, yf⟩ := six_cells S3.out.rn.blk
        try dsimp only [opC, gotC] at o0 o1 o2 o3 o4 q0 q1 q2 q3 q4 q5
        have S4 := Lib.hid (S3.out.set (o' := ⟨k, numV l1, 0, [], false⟩) 1 (.int .i64 (numV l1)) rfl rfl)
        have FN := Lib.hid (show rDec s p = if chkO ⟨k, numV l1, 0, [], false⟩ p = 0 then some (⟨k, numV l1, 0, [], false⟩, (numR l1)) else none from D3.out)
        have CK := fun w h => rdcheck_any ⟨k, numV l1, 0, [], false⟩ (.slice none 0 0) p w h
        obtain ⟨c, hc⟩ : ∃ c, chkO ⟨k, numV l1, 0, [], false⟩ p = c := ⟨_, rfl⟩
        rw [hc] at CK FN
        unfold opV at CK
        dsimp only at CK
        clear hc
        go_wp2_with fail
        refine (CK _ (css_of_own S4.out.row)).mono ?_
        rintro r w9 ⟨rfl, hB9⟩
        have S9 := Lib.hid (S4.out.below hB9)
        clear o0 o1 o2 o3 o4 of q0 q1 q2 q3 q4 q5 qf y0 y1 y2 y3 y4 y5 yf hB9
        obtain ⟨o0, o1, o2, o3, o4⟩ := five_cells S9.out.op
        have of : ∀ o, World.frozen? w9 ⟨O, o, none⟩ = false := fun o => frozen_of_row _ _ o _ _ S9.out.op
        obtain ⟨q0, q1, q2, q3, q4, q5, qf⟩ := six_cells S9.out.res
        obtain ⟨y0, y1, y2, y3, y4, y5, yf⟩ := six_cells S9.out.rn.blk
        try dsimp only [opC, gotC] at o0 o1 o2 o3 o4 q0 q1 q2 q3 q4 q5
        by_cases hc0 : c = 0
        · have hc1 : (c != 0) = false := by simpa using hc0
          have Y := Lib.hid (YES.out _ _ (by rw [FN.out, if_pos hc0]))
          have ZE := Lib.hid (show rdZ s p = (z1 + numZ l1) by
            rw [Y.out.2.1, S9.out.rn.drop, List.length_drop]
            have := S9.out.rn.le
            omega)
          clear hc0
          go_wp2_with fail
          go_region_held3 (fun w' => w'.cell? ⟨O, 0, none⟩ = w9.cell? ⟨O, 0, none⟩ ∧ w'.cell? ⟨O, 1, none⟩ = w9.cell? ⟨O, 1, none⟩ ∧ w'.cell? ⟨O, 2, none⟩ = w9.cell? ⟨O, 2, none⟩ ∧ w'.cell? ⟨O, 3, none⟩ = w9.cell? ⟨O, 3, none⟩ ∧ w'.cell? ⟨O, 4, none⟩ = w9.cell? ⟨O, 4, none⟩ ∧ w'.cell? ⟨w.heap.size + 1, 5, none⟩ = w9.cell? ⟨w.heap.size + 1, 5, none⟩) (go_keep) (fail)
          go_wp2_with fail
          refine rdec_endD (x := ⟨k, numV l1, 0, [], false⟩) (v := (.slice none 0 0)) (z := (z1 + numZ l1)) S9.out.res S9.out.bel (Nat.le_refl _) ?_ Y.out.1 ZE.out ?_ (fun V hg => cssTy_of_own (S9.out.row.kept hg (.inr fun e => S9.out.ne (by omega) e.symm)))
          · rfl
          · rw [Y.out.2.2]; rfl
        · have hc1 : (c != 0) = true := by simpa using hc0
          have N := Lib.hid (NO.out (by rw [FN.out, if_neg hc0]))
          clear hc0
          go_wp2_with fail
          refine rdec_end (x := zeroOp) (v := .slice none 0 0) (z := 0) S9.out.res S9.out.bel (Nat.le_refl _) ?_ N.out.1 N.out.2.1 ?_ (fun V _ => CssTy.nil V)
          · rfl
          · rw [N.out.2.2]; rfl
    · rw [decide_eq_false hb] at db
      have eb : b = 0 ∧ l3 = numR l1 := by have h := DB.out; rw [if_neg (fun h => hb h.1)] at h; exact ⟨(Prod.mk.inj h).1, (Prod.mk.inj h).2⟩
      obtain ⟨rfl, rfl⟩ := eb
      clear DB hb
      go_enter Try.func41, Try.ntmps41
      go_wp2_with fail
      refine (T0.out _ K0.out).mono ?_
      rintro r w1 ⟨rfl, hn1, hg1⟩
      have S0 := Lib.hid (RES.out w1 hn1 hg1)
      clear hn1 hg1 K0 T0 RES
      obtain ⟨q0, q1, q2, q3, q4, q5, qf⟩ := six_cells S0.out.1
      try dsimp only [gotC] at q0 q1 q2 q3 q4 q5
      clear q0 q1 q2 q3 q4 q5 qf
      go_wp2_with fail
      refine (RW.out _).mono ?_
      rintro r w2 ⟨rfl, hB2⟩
      have S2 := Lib.hid (S0.out.2.2.2.below hB2)
      obtain ⟨O, hO⟩ : ∃ O, w1.heap.size = O := ⟨_, rfl⟩
      rw [hO] at S2 ⊢
      have low := S2.out.low
      have n1 : ¬ O = w.heap.size := by omega
      have n2 : ¬ O = w.heap.size + 1 := by omega
      have n3 : ¬ w.heap.size = O := by omega
      have n4 : ¬ w.heap.size + 1 = O := by omega
      clear hB2 S0 hO RW
      obtain ⟨o0, o1, o2, o3, o4⟩ := five_cells S2.out.op
      have of : ∀ o, World.frozen? w2 ⟨O, o, none⟩ = false := fun o => frozen_of_row _ _ o _ _ S2.out.op
      obtain ⟨q0, q1, q2, q3, q4, q5, qf⟩ := six_cells S2.out.res
      obtain ⟨y0, y1, y2, y3, y4, y5, yf⟩ := six_cells S2.out.rn.blk
      try dsimp only [opC, gotC] at o0 o1 o2 o3 o4 q0 q1 q2 q3 q4 q5
      go_wp2_with fail
      refine (number_any s l1 z1 (w.heap.size + 1) _ S2.out.rn hl).mono ?_
      rintro r w3 ⟨rfl, hn, hg⟩
      have S3 := Lib.hid (S2.out.num hn hg)
      clear o0 o1 o2 o3 o4 of q0 q1 q2 q3 q4 q5 qf y0 y1 y2 y3 y4 y5 yf hn hg
      obtain ⟨o0, o1, o2, o3, o4⟩ := five_cells S3.out.op
      have of : ∀ o, World.frozen? w3 ⟨O, o, none⟩ = false := fun o => frozen_of_row _ _ o _ _ S3.out.op
      obtain ⟨q0, q1, q2, q3, q4, q5, qf⟩ := six_cells S3.out.res
      obtain ⟨y0, y1, y2, y3, y4, y5, yf⟩ := six_cells S3.out.rn.blk
      try dsimp only [opC, gotC] at o0 o1 o2 o3 o4 q0 q1 q2 q3 q4 q5
      have S4 := Lib.hid (S3.out.set (o' := ⟨k, numV l1, 0, [], false⟩) 1 (.int .i64 (numV l1)) rfl rfl)
      have FN := Lib.hid (show rDec s p = if chkO ⟨k, numV l1, 0, [], false⟩ p = 0 then some (⟨k, numV l1, 0, [], false⟩, (numR l1)) else none from D3.out)
      have CK := fun w h => rdcheck_any ⟨k, numV l1, 0, [], false⟩ (.slice none 0 0) p w h
      obtain ⟨c, hc⟩ : ∃ c, chkO ⟨k, numV l1, 0, [], false⟩ p = c := ⟨_, rfl⟩
      rw [hc] at CK FN
      unfold opV at CK
      dsimp only at CK
      clear hc
      go_wp2_with fail
      refine (CK _ (css_of_own S4.out.row)).mono ?_
      rintro r w9 ⟨rfl, hB9⟩
      have S9 := Lib.hid (S4.out.below hB9)
      clear o0 o1 o2 o3 o4 of q0 q1 q2 q3 q4 q5 qf y0 y1 y2 y3 y4 y5 yf hB9
      obtain ⟨o0, o1, o2, o3, o4⟩ := five_cells S9.out.op
      have of : ∀ o, World.frozen? w9 ⟨O, o, none⟩ = false := fun o => frozen_of_row _ _ o _ _ S9.out.op
      obtain ⟨q0, q1, q2, q3, q4, q5, qf⟩ := six_cells S9.out.res
      obtain ⟨y0, y1, y2, y3, y4, y5, yf⟩ := six_cells S9.out.rn.blk
      try dsimp only [opC, gotC] at o0 o1 o2 o3 o4 q0 q1 q2 q3 q4 q5
      by_cases hc0 : c = 0
      · have hc1 : (c != 0) = false := by simpa using hc0
        have Y := Lib.hid (YES.out _ _ (by rw [FN.out, if_pos hc0]))
        have ZE := Lib.hid (show rdZ s p = (z1 + numZ l1) by
          rw [Y.out.2.1, S9.out.rn.drop, List.length_drop]
          have := S9.out.rn.le
          omega)
        clear hc0
        go_wp2_with fail
        go_region_held3 (fun w' => w'.cell? ⟨O, 0, none⟩ = w9.cell? ⟨O, 0, none⟩ ∧ w'.cell? ⟨O, 1, none⟩ = w9.cell? ⟨O, 1, none⟩ ∧ w'.cell? ⟨O, 2, none⟩ = w9.cell? ⟨O, 2, none⟩ ∧ w'.cell? ⟨O, 3, none⟩ = w9.cell? ⟨O, 3, none⟩ ∧ w'.cell? ⟨O, 4, none⟩ = w9.cell? ⟨O, 4, none⟩ ∧ w'.cell? ⟨w.heap.size + 1, 5, none⟩ = w9.cell? ⟨w.heap.size + 1, 5, none⟩) (go_keep) (fail)
        go_wp2_with fail
        refine rdec_endD (x := ⟨k, numV l1, 0, [], false⟩) (v := (.slice none 0 0)) (z := (z1 + numZ l1)) S9.out.res S9.out.bel (Nat.le_refl _) ?_ Y.out.1 ZE.out ?_ (fun V hg => cssTy_of_own (S9.out.row.kept hg (.inr fun e => S9.out.ne (by omega) e.symm)))
        · rfl
        · rw [Y.out.2.2]; rfl
      · have hc1 : (c != 0) = true := by simpa using hc0
        have N := Lib.hid (NO.out (by rw [FN.out, if_neg hc0]))
        clear hc0
        go_wp2_with fail
        refine rdec_end (x := zeroOp) (v := .slice none 0 0) (z := 0) S9.out.res S9.out.bel (Nat.le_refl _) ?_ N.out.1 N.out.2.1 ?_ (fun V _ => CssTy.nil V)
        · rfl
        · rw [N.out.2.2]; rfl
  · have hb : ¬ 0 < lb := fun h => ha (LAB.out h)
    have ea : a = 0 ∧ l2 = l1 := by have h := DA.out; rw [if_neg ha] at h; exact ⟨(Prod.mk.inj h).1, (Prod.mk.inj h).2⟩
    obtain ⟨rfl, rfl⟩ := ea
    have eb : b = 0 ∧ l3 = l2 := by have h := DB.out; rw [if_neg (fun h => hb h.1)] at h; exact ⟨(Prod.mk.inj h).1, (Prod.mk.inj h).2⟩
    obtain ⟨rfl, rfl⟩ := eb
    rw [decide_eq_false ha] at da
    rw [decide_eq_false hb] at db
    clear DA DB ha hb LAB
    go_enter Try.func41, Try.ntmps41
    go_wp2_with fail
    refine (T0.out _ K0.out).mono ?_
    rintro r w1 ⟨rfl, hn1, hg1⟩
    have S0 := Lib.hid (RES.out w1 hn1 hg1)
    clear hn1 hg1 K0 T0 RES
    obtain ⟨q0, q1, q2, q3, q4, q5, qf⟩ := six_cells S0.out.1
    try dsimp only [gotC] at q0 q1 q2 q3 q4 q5
    clear q0 q1 q2 q3 q4 q5 qf
    go_wp2_with fail
    refine (RW.out _).mono ?_
    rintro r w2 ⟨rfl, hB2⟩
    have S2 := Lib.hid (S0.out.2.2.2.below hB2)
    obtain ⟨O, hO⟩ : ∃ O, w1.heap.size = O := ⟨_, rfl⟩
    rw [hO] at S2 ⊢
    have low := S2.out.low
    have n1 : ¬ O = w.heap.size := by omega
    have n2 : ¬ O = w.heap.size + 1 := by omega
    have n3 : ¬ w.heap.size = O := by omega
    have n4 : ¬ w.heap.size + 1 = O := by omega
    clear hB2 S0 hO RW
    obtain ⟨o0, o1, o2, o3, o4⟩ := five_cells S2.out.op
    have of : ∀ o, World.frozen? w2 ⟨O, o, none⟩ = false := fun o => frozen_of_row _ _ o _ _ S2.out.op
    obtain ⟨q0, q1, q2, q3, q4, q5, qf⟩ := six_cells S2.out.res
    obtain ⟨y0, y1, y2, y3, y4, y5, yf⟩ := six_cells S2.out.rn.blk
    try dsimp only [opC, gotC] at o0 o1 o2 o3 o4 q0 q1 q2 q3 q4 q5
    have FN := Lib.hid (show rDec s p = if chkO ⟨k, 0, 0, [], false⟩ p = 0 then some (⟨k, 0, 0, [], false⟩, l3) else none from D3.out)
    have CK := fun w h => rdcheck_any ⟨k, 0, 0, [], false⟩ (.slice none 0 0) p w h
    obtain ⟨c, hc⟩ : ∃ c, chkO ⟨k, 0, 0, [], false⟩ p = c := ⟨_, rfl⟩
    rw [hc] at CK FN
    unfold opV at CK
    dsimp only at CK
    clear hc
    go_wp2_with fail
    refine (CK _ (css_of_own S2.out.row)).mono ?_
    rintro r w9 ⟨rfl, hB9⟩
    have S9 := Lib.hid (S2.out.below hB9)
    clear o0 o1 o2 o3 o4 of q0 q1 q2 q3 q4 q5 qf y0 y1 y2 y3 y4 y5 yf hB9
    obtain ⟨o0, o1, o2, o3, o4⟩ := five_cells S9.out.op
    have of : ∀ o, World.frozen? w9 ⟨O, o, none⟩ = false := fun o => frozen_of_row _ _ o _ _ S9.out.op
    obtain ⟨q0, q1, q2, q3, q4, q5, qf⟩ := six_cells S9.out.res
    obtain ⟨y0, y1, y2, y3, y4, y5, yf⟩ := six_cells S9.out.rn.blk
    try dsimp only [opC, gotC] at o0 o1 o2 o3 o4 q0 q1 q2 q3 q4 q5
    by_cases hc0 : c = 0
    · have hc1 : (c != 0) = false := by simpa using hc0
      have Y := Lib.hid (YES.out _ _ (by rw [FN.out, if_pos hc0]))
      have ZE := Lib.hid (show rdZ s p = z1 by
        rw [Y.out.2.1, S9.out.rn.drop, List.length_drop]
        have := S9.out.rn.le
        omega)
      clear hc0
      go_wp2_with fail
      go_region_held3 (fun w' => w'.cell? ⟨O, 0, none⟩ = w9.cell? ⟨O, 0, none⟩ ∧ w'.cell? ⟨O, 1, none⟩ = w9.cell? ⟨O, 1, none⟩ ∧ w'.cell? ⟨O, 2, none⟩ = w9.cell? ⟨O, 2, none⟩ ∧ w'.cell? ⟨O, 3, none⟩ = w9.cell? ⟨O, 3, none⟩ ∧ w'.cell? ⟨O, 4, none⟩ = w9.cell? ⟨O, 4, none⟩ ∧ w'.cell? ⟨w.heap.size + 1, 5, none⟩ = w9.cell? ⟨w.heap.size + 1, 5, none⟩) (go_keep) (fail)
      go_wp2_with fail
      refine rdec_endD (x := ⟨k, 0, 0, [], false⟩) (v := (.slice none 0 0)) (z := z1) S9.out.res S9.out.bel (Nat.le_refl _) ?_ Y.out.1 ZE.out ?_ (fun V hg => cssTy_of_own (S9.out.row.kept hg (.inr fun e => S9.out.ne (by omega) e.symm)))
      · rfl
      · rw [Y.out.2.2]; rfl
    · have hc1 : (c != 0) = true := by simpa using hc0
      have N := Lib.hid (NO.out (by rw [FN.out, if_neg hc0]))
      clear hc0
      go_wp2_with fail
      refine rdec_end (x := zeroOp) (v := .slice none 0 0) (z := 0) S9.out.res S9.out.bel (Nat.le_refl _) ?_ N.out.1 N.out.2.1 ?_ (fun V _ => CssTy.nil V)
      · rfl
      · rw [N.out.2.2]; rfl

def RDecPost (s : List UInt8) (p : Int) (w : World) (r : Ending) (w' : World) : Prop :=
  ∃ v, r = .returned (.tuple #[.agg (gotC v (rdO s p) (rdZ s p)), .int .i64 (rdF s p)]) ∧ CssOf w' v (rdO s p).cs ∧ Below w.heap.size w w'
theorem rddecode_any (s : List UInt8) (p : Int) (w : World) (hl : s.length ≤ 140737488351232) : Calls Try.prog 41 #[bs s, .int .i64 p] w (RDecPost s p w) :=
  (rddecodeT_any s p w hl).mono fun _ _ ⟨v, h1, h2, h3⟩ => ⟨v, h1, h2.1, h3⟩
end Go.Proofs.Ytpefjcmaggimhaa

