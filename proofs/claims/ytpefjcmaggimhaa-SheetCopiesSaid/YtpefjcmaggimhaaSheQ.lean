
/-
  The reference of layer 5: the walk of Decode.
-/
import Derived.Test.YtpefjcmaggimhaaSheP
namespace Go.Proofs.Ytpefjcmaggimhaa
open Go.RowKit
set_option linter.unusedVariables false
set_option linter.unusedSimpArgs false
set_option maxRecDepth 100000

theorem rds_at {x : Option Scr} {w V : World} {B : Nat} {vp vl vd : Value} {s : Scr} {tmps : Array Value} (hc : V.heap[B]? = some (Obj.cells (scrC vp vl vd s) 25 (0, 0))) (hb : Below w.heap.size w V)
    (ht : tmps.getD 2 undef = .pointer (some ⟨B, 0, none⟩)) (hx : optS x = s) (hf : Value.int .i64 (optF x) = tmps.getD 3 undef) (hs : ScrAt V vp vl vd s) :
    bodyPost Try.prog Try.f15 (DSPost x w) Exit.ret { tmps := tmps, defers := [] } V := by
  obtain ⟨z0, z1, z2, z3, z4⟩ := sc_cells hc
  have ht' : tmps[2]?.getD undef = .pointer (some ⟨B, 0, none⟩) := by simpa using ht
  refine bodyPost_ret (v := .tuple #[scrV vp vl vd s, tmps.getD 3 undef]) ?_ rfl ⟨vp, vl, vd, by rw [hx, hf], by rw [hx]; exact hs, hb⟩
  simp [results, Try.results15, ht', asAddr, go_sem, z0, z1, z2, z3, z4, scrV, scrC]
theorem rds_end {x : Option Scr} {w W : World} {B : Nat} {vp vl vd ep el ed : Value} {s s0 : Scr} {tmps : Array Value} (h : W.heap[B]? = some (Obj.cells (scrC ep el ed s0) 25 (0, 0))) (hB : Below w.heap.size w W) (hle : w.heap.size ≤ B)
    (ht : tmps.getD 2 undef = .pointer (some ⟨B, 0, none⟩)) (hx : optS x = s) (hf : Value.int .i64 (optF x) = tmps.getD 3 undef) (hs : ∀ V, W.grownBy V (some B) → ScrAt V vp vl vd s) :
    bodyPost Try.prog Try.f15 (DSPost x w) Exit.ret { tmps := tmps, defers := [] }
      (((((W.setCell ⟨B, 0, none⟩ (.int .i64 s.t)).setCell ⟨B, 1, none⟩ (.int .i64 s.m)).setCell ⟨B, 2, none⟩ vp).setCell ⟨B, 3, none⟩ vl).setCell ⟨B, 4, none⟩ vd) := by
  obtain ⟨V, hV⟩ : ∃ V, (((((W.setCell ⟨B, 0, none⟩ (.int .i64 s.t)).setCell ⟨B, 1, none⟩ (.int .i64 s.m)).setCell ⟨B, 2, none⟩ vp).setCell ⟨B, 3, none⟩ vl).setCell ⟨B, 4, none⟩ vd) = V := ⟨_, rfl⟩
  have hc : V.heap[B]? = some (Obj.cells (scrC vp vl vd s) 25 (0, 0)) := by
    rw [← hV]
    have h0 := heap_setCell_same _ _ 0 _ _ (.int .i64 s.t) h
    have h1 := heap_setCell_same _ _ 1 _ _ (.int .i64 s.m) h0
    have h2 := heap_setCell_same _ _ 2 _ _ vp h1
    have h3 := heap_setCell_same _ _ 3 _ _ vl h2
    have h4 := heap_setCell_same _ _ 4 _ _ vd h3
    rw [h4]
    simp [scrC]
  have hb : Below w.heap.size w V := by
    rw [← hV]
    exact ((((hB.setCell hle _).setCell hle _).setCell hle _).setCell hle _).setCell hle _
  have hg : W.grownBy V (some B) := by
    rw [← hV]
    exact ((((gr_set W ⟨B, 0, none⟩ _).trans (gr_set _ ⟨B, 1, none⟩ _)).trans (gr_set _ ⟨B, 2, none⟩ _)).trans (gr_set _ ⟨B, 3, none⟩ _)).trans (gr_set _ ⟨B, 4, none⟩ _)
  rw [hV]
  exact rds_at hc hb ht hx hf (hs _ hg)
set_option maxHeartbeats 8000000 in
theorem rsdecode_any (b : List UInt8) (w : World) (hl : b.length ≤ 100000) : Calls Try.prog 15 #[bs b] w (DSPost (rdecX b) w) := by
  obtain ⟨pk, hpk⟩ : ∃ x, rdecX b = x := ⟨_, rfl⟩
  rw [hpk]
  have PK := Lib.hid hpk
  clear hpk
  have R0 : (w.alloc (.cells (scrC (.slice none 0 0) (.slice none 0 0) (.slice none 0 0) zeroScr) 25)).heap[w.heap.size]? = some (Obj.cells (scrC (.slice none 0 0) (.slice none 0 0) (.slice none 0 0) zeroScr) 25 (0, 0)) := heap_alloc_new _ _
  have T0 : TpAt b b 0 (w.heap.size + 1) ((w.alloc (.cells (scrC (.slice none 0 0) (.slice none 0 0) (.slice none 0 0) zeroScr) 25)).alloc (.cells #[bs b, .int .i64 0] 80)) := by
    have h := heap_alloc_new (w.alloc (.cells (scrC (.slice none 0 0) (.slice none 0 0) (.slice none 0 0) zeroScr) 25)) (.cells #[bs b, .int .i64 0] 80)
    rw [World.size_alloc] at h
    exact ⟨h, rfl, Nat.zero_le _⟩
  have TT0 := Lib.hid T0
  have RR0 := Lib.hid ((heap_alloc_old _ (.cells #[bs b, .int .i64 0] 80) (by simp)).trans R0)
  have BB0 := Lib.hid (show Below w.heap.size w ((w.alloc (.cells (scrC (.slice none 0 0) (.slice none 0 0) (.slice none 0 0) zeroScr) 25)).alloc (.cells #[bs b, .int .i64 0] 80)) from ((below1 _ _).trans ((below1 _ _).mono (by simp))))
  have N1 := Lib.hid (tnumber_any b b 0 (w.heap.size + 1) _ T0 (by omega))
  clear R0 T0
  obtain ⟨S, hS⟩ : ∃ S : ByteArray, ByteArray.mk b.toArray = S := ⟨_, rfl⟩
  have hbs : bs b = .string S := by rw [← hS]; rfl
  have HBS := Lib.hid hbs
  rw [hbs] at N1 RR0 BB0 ⊢
  have SS := Lib.hid (show S.size = b.length from by rw [← hS]; simp [ByteArray.size])
  clear hbs hS
  go_enter Try.func15, Try.ntmps15
  go_wp2_with fail
  refine N1.out.mono ?_
  rintro r w1 ⟨rfl, t1, g1⟩
  have T1 := Lib.hid t1
  have R1 := Lib.hid ((g1.block w.heap.size (by simp; omega) (by intro e; have := Option.some.inj e; omega)).trans RR0.out)
  have B1 := Lib.hid (BB0.out.grown g1 (by simp; omega) (fun k hk => by have := Option.some.inj hk; omega))
  clear t1 g1 RR0 BB0 TT0 N1
  obtain ⟨t, ht⟩ : ∃ x, numV b = x := ⟨_, rfl⟩
  obtain ⟨l1, hl1⟩ : ∃ x, numR b = x := ⟨_, rfl⟩
  obtain ⟨z1, hz1⟩ : ∃ x, 0 + numZ b = x := ⟨_, rfl⟩
  have PK1 := Lib.hid (show pk = rdecX b from PK.out.symm)
  unfold rdecX at PK1
  rw [ht, hl1] at PK1
  rw [hl1, hz1] at T1
  rw [ht]
  clear ht hl1 hz1 PK
  have SZ1 := B1.out.size
  have S1 := Lib.hid (show RsSt b l1 z1 t 0 (w.heap.size + 1) w1.heap.size (.slice none 0 0) [] w (w1.alloc (.cells (scrC (.slice none 0 0) (.slice none 0 0) (.slice none 0 0) ⟨t, 0, [], [], []⟩) 25)) from
    ⟨(heap_alloc_old _ _ (lt_of_heap R1.out)).trans R1.out, T1.out.gr (World.grownBy_alloc _ _ none) (by simp), heap_alloc_new _ _, PrRow.nil _ _, B1.out.alloc SZ1 _, by omega, lt_of_heap R1.out⟩)
  have N2 := Lib.hid (tnumber_any b l1 z1 (w.heap.size + 1) _ S1.out.tp (by omega))
  obtain ⟨SB, hSB⟩ : ∃ x, w1.heap.size = x := ⟨_, rfl⟩
  obtain ⟨m, hm⟩ : ∃ x, numV l1 = x := ⟨_, rfl⟩
  obtain ⟨l2, hl2⟩ : ∃ x, numR l1 = x := ⟨_, rfl⟩
  obtain ⟨z2, hz2⟩ : ∃ x, z1 + numZ l1 = x := ⟨_, rfl⟩
  obtain ⟨TB, hTB⟩ : ∃ x, w.heap.size + 1 = x := ⟨_, rfl⟩
  unfold TNumPost at N2
  rw [hm, hl2, hz2] at N2
  rw [hm, hl2] at PK1
  rw [hTB] at S1 N2 ⊢
  rw [hSB] at S1
  clear SZ1 T1 R1 B1 hm hl2 hz2
  go_wp2_with fail
  refine N2.out.mono ?_
  rintro r w2 ⟨rfl, t2, g2⟩
  have S2 := Lib.hid (S1.out.num t2 g2)
  clear t2 g2 S1 N2 hSB hTB
  obtain ⟨z0, z1', z2', z3, z4⟩ := sc_cells S2.out.sb
  have zf : ∀ o, World.frozen? w2 ⟨SB, o, none⟩ = false := fun o => frozen_of_row _ _ o _ _ S2.out.sb
  have S3 := Lib.hid (S2.out.setM (m' := m))
  have N3 := Lib.hid (tnumber_any b l2 z2 TB _ S3.out.tp (by omega))
  obtain ⟨n, hn⟩ : ∃ x, numV l2 = x := ⟨_, rfl⟩
  obtain ⟨l3, hl3⟩ : ∃ x, numR l2 = x := ⟨_, rfl⟩
  obtain ⟨z5, hz5⟩ : ∃ x, z2 + numZ l2 = x := ⟨_, rfl⟩
  unfold TNumPost at N3
  rw [hn, hl3, hz5] at N3
  rw [hn, hl3] at PK1
  clear hn hl3 hz5 S2
  go_wp2_with fail
  refine N3.out.mono ?_
  rintro r w3 ⟨rfl, t3, g3⟩
  have S4 := Lib.hid (S3.out.num t3 g3)
  clear t3 g3 S3 N3 z0 z1' z2' z3 z4 zf
  obtain ⟨q0, q1, q2, q3, q4⟩ := sc_cells S4.out.res
  have qf : ∀ o, World.frozen? w3 ⟨w.heap.size, o, none⟩ = false := fun o => frozen_of_row _ _ o _ _ S4.out.res
  by_cases h1 : n < 1
  · have d1 : decide (n < 1) = true := decide_eq_true h1
    have P2 := Lib.hid (show pk = none from by rw [PK1.out, if_pos (.inl h1)])
    clear h1 PK1
    go_wp2_with fail
    exact rds_end (s := zeroScr) S4.out.res S4.out.bel (Nat.le_refl _) rfl (by rw [P2.out]; rfl) (by rw [P2.out]; rfl) (fun V _ => scrAt_zero V)
  by_cases h2 : 8 < n
  · have d1 : decide (n < 1) = false := decide_eq_false h1
    have d2 : decide (8 < n) = true := decide_eq_true h2
    have P2 := Lib.hid (show pk = none from by rw [PK1.out, if_pos (.inr h2)])
    clear h1 h2 PK1
    go_wp2_with fail
    exact rds_end (s := zeroScr) S4.out.res S4.out.bel (Nat.le_refl _) rfl (by rw [P2.out]; rfl) (by rw [P2.out]; rfl) (fun V _ => scrAt_zero V)
  have d1 : decide (n < 1) = false := decide_eq_false h1
  have d2 : decide (8 < n) = false := decide_eq_false h2
  obtain ⟨N, rfl⟩ := Int.eq_ofNat_of_zero_le (show 0 ≤ n by omega)
  have PK2 := Lib.hid (show pk = match prsK N l3 N with | none => none | some (ps, r') => endX t m ps r' from by rw [PK1.out, if_neg (by omega)]; rfl)
  have hN : N ≤ 8 := by omega
  have hN1 : 1 ≤ N := by omega
  clear PK1 h1 h2
  go_wp2_with fail
  go_loopw [7] (fun i wr => ∃ (k : Nat) (v : Value) (qs : List Pr) (l : List UInt8) (z : Nat), k ≤ N ∧ i = .int .i64 k ∧ prsK N l3 k = some (qs.map Pr.ops, l) ∧ RsSt b l z t m TB SB v qs w wr) (fun i _ => N - (intOf i).toNat)
  case atStart => exact ⟨0, _, [], l3, _, by omega, rfl, rfl, S4.out⟩
  case round =>
    obtain ⟨k, v, qs, l, z, hk, rfl, hpr, hst⟩ := hrel
    obtain ⟨hlk, hrl, h32⟩ := prsK_facts hpr
    rw [List.length_map] at hlk
    obtain ⟨az, cz, hv⟩ := owns_slice hst.row.row
    rw [hlk] at hv
    subst hv
    have ST := Lib.hid hst
    have HPR := Lib.hid hpr
    have LK := Lib.hid hlk
    have H32 := Lib.hid h32
    clear hst hpr hlk S4 hrl h32 q0 q1 q2 q3 q4 qf
    by_cases hlt : k < N
    · have hlt' : (k : Int) < (N : Int) := by omega
      have NN := Lib.hid (tnumber_any b l z TB _ ST.out.tp (by omega))
      have PG := Lib.hid (rprogK_eq N l)
      unfold rprogK at PG
      obtain ⟨c, hc⟩ : ∃ x, numV l = x := ⟨_, rfl⟩
      obtain ⟨l0, hl0⟩ : ∃ x, numR l = x := ⟨_, rfl⟩
      obtain ⟨z0, hz0⟩ : ∃ x, z + numZ l = x := ⟨_, rfl⟩
      unfold TNumPost at NN
      rw [hc, hl0, hz0] at NN
      rw [hc, hl0] at PG
      clear hc hl0 hz0
      go_wp2_with fail
      refine NN.out.mono ?_
      rintro r w4 ⟨rfl, t4, g4⟩
      have S4 := Lib.hid (ST.out.num t4 g4)
      clear t4 g4 ST NN
      by_cases h1 : c < 0 ∨ 32 < c
      · have P2 := Lib.hid (show pk = none from by rw [PK2.out, prsK_none (k := k + 1) (prsK_no HPR.out (by rw [← PG.out, if_pos h1])) N (by omega)])
        obtain ⟨q0, q1, q2, q3, q4⟩ := sc_cells S4.out.res
        have qf : ∀ o, World.frozen? w4 ⟨w.heap.size, o, none⟩ = false := fun o => frozen_of_row _ _ o _ _ S4.out.res
        clear PG
        by_cases h2 : c < 0
        · have d3 : decide (c < 0) = true := decide_eq_true h2
          clear h1 h2
          go_wp2_with fail
          exact rds_end (s := zeroScr) S4.out.res S4.out.bel (Nat.le_refl _) rfl (by rw [P2.out]; rfl) (by rw [P2.out]; rfl) (fun V _ => scrAt_zero V)
        · have d3 : decide (c < 0) = false := decide_eq_false h2
          have d4 : decide (32 < c) = true := decide_eq_true (by omega)
          clear h1 h2
          go_wp2_with fail
          exact rds_end (s := zeroScr) S4.out.res S4.out.bel (Nat.le_refl _) rfl (by rw [P2.out]; rfl) (by rw [P2.out]; rfl) (fun V _ => scrAt_zero V)
      have d3 : decide (c < 0) = false := decide_eq_false (by omega)
      have d4 : decide (32 < c) = false := decide_eq_false (by omega)
      obtain ⟨M, rfl⟩ := Int.eq_ofNat_of_zero_le (show 0 ≤ c by omega)
      have PG2 := Lib.hid (show progK N l = opsK N l0 M from by rw [← PG.out, if_neg h1]; rfl)
      have hM : M ≤ 32 := by omega
      clear PG h1
      go_wp2_with fail
      go_loopw [10, 9] (fun i pv wr => ∃ (j : Nat) (es : List (Opn × Value)) (l' : List UInt8) (z' : Nat), j ≤ M ∧ i = .int .i64 j ∧ opsK N l0 j = some (es.map (·.1), l') ∧ RiSt b l' z' TB pv es w4 wr) (fun i _ _ => M - (intOf i).toNat)
      case atStart => exact ⟨0, [], l0, _, by omega, rfl, rfl, ⟨gr_refl _ _, S4.out.tp, OpRow.nil _ _⟩⟩
      case round =>
        obtain ⟨j, es, l', z', hj, rfl, hop, hri⟩ := hrel
        obtain ⟨ap, cp, hv⟩ := owns_slice hri.row.row
        have hle := (opsK_facts hop).1
        rw [List.length_map] at hle
        rw [hle] at hv
        subst hv
        have RI := Lib.hid hri
        have HOP := Lib.hid hop
        have LE := Lib.hid hle
        clear hri hop hle
        by_cases hjt : j < M
        · have hjt' : (j : Int) < (M : Int) := by omega
          have hll : l'.length ≤ 100000 := by have := RI.out.tp.drop; have := RI.out.tp.le; rw [RI.out.tp.drop, List.length_drop]; omega
          have DC := Lib.hid (fun W => rddecodeT_any l' N W (by omega))
          have STEP := Lib.hid (show opsK N l0 (j + 1) = if rdF l' N = 0 then some (es.map (·.1) ++ [rdO l' N], l'.drop (rdZ l' N)) else none from by
            obtain ⟨g1, g2, g3, g4⟩ := dec_both l' N
            simp only [opsK, HOP.out]
            rw [g2, g1]
            by_cases h : decOF l' N = 0
            · rw [if_pos h, if_pos h, (g4 h).1]
            · rw [if_neg h, if_neg h])
          have ZB := Lib.hid (show rdF l' N = 0 → rdZ l' N ≤ l'.length from fun h => ((dec_both l' N).2.2.2 (by rw [← (dec_both l' N).2.1]; exact h)).2)
          unfold RDecPostT gotC at DC
          obtain ⟨te, hte⟩ : ∃ x, rdF l' N = x := ⟨_, rfl⟩
          obtain ⟨od, hod⟩ : ∃ x, rdO l' N = x := ⟨_, rfl⟩
          obtain ⟨zd, hzd⟩ : ∃ x, rdZ l' N = x := ⟨_, rfl⟩
          rw [hte, hod, hzd] at DC STEP
          rw [hte, hzd] at ZB
          rw [RI.out.tp.drop] at DC
          have hz0 : (z' : Int) ≤ b.length := by have := RI.out.tp.le; omega
          have hz9 : (z' : Int) ≤ 1000000 := by omega
          obtain ⟨x0, x1, xf⟩ := two_cells RI.out.tp.blk
          have hgl := lt_of_heap RI.out.tp.blk
          have hne : ¬ TB = wr.heap.size := by omega
          have hne2 : ¬ wr.heap.size = TB := by omega
          clear hte hod hzd
          go_wp2_with fail
          go_region_held3 (fun w' => w'.cell? ⟨TB, 0, none⟩ = some (bs b) ∧ w'.cell? ⟨TB, 1, none⟩ = some (.int .i64 z')) (go_keep)
            (first | (go_at_call 41; (with_reducible refine (DC.out _).mono ?_); rintro r w5 ⟨vc, rfl, hcs, hB5⟩; obtain ⟨ac, cc, rfl⟩ := hcs.1.shape; have k0 := hB5.cell (p := ⟨TB, 0, none⟩) (by simp; omega); have k1 := hB5.cell (p := ⟨TB, 1, none⟩) (by simp; omega); have kk := fun (o : Nat) h => hB5.cell (p := ⟨wr.heap.size, o, none⟩) h; (try simp at kk); have kf := fun (o : Nat) h => hB5.frozen (p := ⟨wr.heap.size, o, none⟩) h; (try simp at kf); have CS := Lib.hid hcs; have B5 := Lib.hid hB5; clear hB5 hcs))
          all_goals
            first
            | (
              obtain ⟨w6, hw6⟩ : ∃ x, ((((((w5.setCell ⟨wr.heap.size, 0, none⟩ (.int .i64 od.k)).setCell ⟨wr.heap.size, 1, none⟩ (.int .i64 od.a)).setCell ⟨wr.heap.size, 2, none⟩ (.int .i64 od.b)).setCell ⟨wr.heap.size, 3, none⟩ (.slice ac od.cs.length cc)).setCell ⟨wr.heap.size, 4, none⟩ (.bool od.df)).setCell ⟨wr.heap.size, 5, none⟩ (.int .i64 zd)) = x := ⟨_, rfl⟩
              rw [hw6]
              have BX : Below wr.heap.size wr w5 := ((below1 wr _).drew).trans (B5.out.mono (by simp))
              have XH : w5.heap[wr.heap.size]? = some (Obj.cells (gotC (.slice none 0 0) zeroOp 0) 83 (0, 0)) := (B5.out.block _ (by simp)).trans (heap_alloc_new wr _)
              have B6 := Lib.hid (show Below wr.heap.size wr w6 from by rw [← hw6]; exact (((((BX.setCell (Nat.le_refl _) _).setCell (Nat.le_refl _) _).setCell (Nat.le_refl _) _).setCell (Nat.le_refl _) _).setCell (Nat.le_refl _) _).setCell (Nat.le_refl _) _)
              have X6 := Lib.hid (show w6.heap[wr.heap.size]? = some (Obj.cells (gotC (.slice ac od.cs.length cc) od zd) 83 (0, 0)) from by
                rw [← hw6, heap_setCell_same _ _ 5 _ _ _ (heap_setCell_same _ _ 4 _ _ _ (heap_setCell_same _ _ 3 _ _ _ (heap_setCell_same _ _ 2 _ _ _ (heap_setCell_same _ _ 1 _ _ _ (heap_setCell_same _ _ 0 _ _ _ XH)))))]; rfl)
              have C6 := Lib.hid (show CssTy w6 (.slice ac od.cs.length cc) od.cs from by
                have o2 : OthB w5 (some wr.heap.size) [50] := othB_cell XH (by decide)
                have hg : w5.grownBy w6 (some wr.heap.size) := by rw [← hw6]; exact (((((gr_set w5 ⟨wr.heap.size, 0, none⟩ _).trans (gr_set _ ⟨wr.heap.size, 1, none⟩ _)).trans (gr_set _ ⟨wr.heap.size, 2, none⟩ _)).trans (gr_set _ ⟨wr.heap.size, 3, none⟩ _)).trans (gr_set _ ⟨wr.heap.size, 4, none⟩ _)).trans (gr_set _ ⟨wr.heap.size, 5, none⟩ _)
                exact cssTy_keep CS.out hg o2 (by simp))
              clear XH
              )
            | (
              obtain ⟨w6, hw6⟩ : ∃ x, w5.alloc (Obj.cells (gotC (.slice ac od.cs.length cc) od zd) 83) = x := ⟨_, rfl⟩
              unfold gotC at hw6
              rw [hw6]
              have BX : Below wr.heap.size wr w5 := (Below.refl wr.heap.size wr).drew.trans B5.out
              have hneA : ¬ TB = w5.heap.size := by have := BX.size; omega
              have hneB : ¬ w5.heap.size = TB := by have := BX.size; omega
              have B6 := Lib.hid (show Below wr.heap.size wr w6 from by rw [← hw6]; exact BX.alloc BX.size _)
              have X6 := Lib.hid (show w6.heap[w5.heap.size]? = some (Obj.cells (gotC (.slice ac od.cs.length cc) od zd) 83 (0, 0)) from by rw [← hw6]; exact heap_alloc_new _ _)
              have C6 := Lib.hid (show CssTy w6 (.slice ac od.cs.length cc) od.cs from by rw [← hw6]; exact cssTy_below CS.out (Nat.le_refl _) (below1 _ _))
              )
            have R6 := Lib.hid (RI.out.below B6.out)
            clear hw6 BX B5 CS x0 x1 xf
            obtain ⟨x0, x1, xf⟩ := two_cells R6.out.tp.blk
            obtain ⟨q0, q1, q2, q3, q4, q5, qf⟩ := six_cells X6.out
            try dsimp only [gotC] at q0 q1 q2 q3 q4 q5
            by_cases he : te = 0
            · have zb := ZB.out he
              have S2 := Lib.hid (show opsK N l0 (j + 1) = some (es.map (·.1) ++ [od], l'.drop zd) from by rw [STEP.out, if_pos he])
              have LD := Lib.hid (show l'.drop zd = b.drop (z' + zd) ∧ z' + zd ≤ b.length from by
                have h1 := R6.out.tp.drop
                have h2 := R6.out.tp.le
                have h3 : l'.length = b.length - z' := by rw [h1, List.length_drop]
                exact ⟨by rw [h1, List.drop_drop], by omega⟩)
              have hz8 := LD.out.2
              have wr1 : IntKind.i64.wrap ((z' : Int) + zd) = z' + zd := IntWalk.i64_in _ (by omega)
              subst he
              clear STEP ZB zb
              go_wp2_with fail
              go_region_with (fail)
              all_goals
                have g3 : w6.grownBy (w6.setCell ⟨TB, 1, none⟩ (.int .i64 ((z' : Int) + zd))).drew (some TB) := (gr_set w6 ⟨TB, 1, none⟩ _).trans (gr_drew _ _)
                have T3 : TpAt b (l'.drop zd) (z' + zd) TB (w6.setCell ⟨TB, 1, none⟩ (.int .i64 ((z' : Int) + zd))).drew := ⟨(heap_setCell_same w6 TB 1 _ _ (.int .i64 ((z' : Int) + zd)) R6.out.tp.blk).trans (by rw [show ((z' + zd : Nat) : Int) = (z' : Int) + zd by omega]; rfl), LD.out.1, LD.out.2⟩
                have R7 := Lib.hid (R6.out.num T3 g3)
                have C7 := Lib.hid (cssTy_keep C6.out g3 (othB_cell R6.out.tp.blk (ts := [50]) (by decide)) (by simp))
                have X7 := Lib.hid ((g3.block _ (lt_of_heap X6.out) (by intro e; have := Option.some.inj e; omega)).trans X6.out)
                obtain ⟨w7, hw7⟩ : ∃ x, (w6.setCell ⟨TB, 1, none⟩ (.int .i64 ((z' : Int) + zd))).drew = x := ⟨_, rfl⟩
                rw [hw7] at R7 C7 X7 ⊢
                clear hw7 T3 g3 R6 C6 X6 x0 x1 xf q0 q1 q2 q3 q4 q5 qf
                obtain ⟨q0, q1, q2, q3, q4, q5, qf⟩ := six_cells X7.out
                try dsimp only [gotC] at q0 q1 q2 q3 q4 q5
                obtain ⟨i0, hi, hzz, hzz1, hzz2⟩ := info_parts opinfo
                obtain ⟨A, hA⟩ : ∃ o, Obj.cells #[Value.int .i64 od.k, Value.int .i64 od.a, Value.int .i64 od.b, Value.slice ac od.cs.length cc, Value.bool od.df] 48 = o := ⟨_, rfl⟩
                have R8 := Lib.hid (R7.out.below (below1 w7 A))
                have C8 := Lib.hid (cssTy_below C7.out (Nat.le_refl _) (below1 w7 A))
                have SZ8 := R8.out.gr.size
                subst hA
                go_wp2_with (at_builtin; refine wpList_append_own _ rfl _ _ 45 rfl w4.heap.size 48 i0 _ 5 56 Try.underlying45 hi hzz hzz1 hzz2 rfl (by decide) _ _ _ rfl (show World.ownsRow _ _ _ _ _ _ _ from by have h := R8.out.row.row; rw [LE.out] at h; exact h) ⟨w7.heap.size, 0, none⟩ 1 1 (opL (od, .slice ac od.cs.length cc)) rfl rfl ?c1 ?c2 ?c3 ?c4 ?c5 ?_)
                case c1 => exact fun i u hu => range_lit w7 (opL (od, .slice ac od.cs.length cc)) 48 i u hu
                case c2 => exact opL_one (w := w7) C7.out.1
                case c3 => unfold maxLen; omega
                case c4 => omega
                case c5 => exact SZ8
                intro v' w9 hown hgr _
                have R9 := Lib.hid (R8.out.app (x := (od, .slice ac od.cs.length cc)) C8.out (by rw [LE.out]; exact hown) hgr)
                clear hown hgr
                go_wp2_with fail
                go_roundw
                case rel => exact ⟨j + 1, _, _, _, by omega, by go_num, by rw [List.map_append]; exact S2.out, R9.out⟩
                case measure => simp [intOf] <;> omega
            · have he1 : (te != 0) = true := by simpa using he
              have he2 : (te == 0) = false := beq_eq_false_iff_ne.2 he
              have P2 := Lib.hid (show pk = none from by rw [PK2.out, prsK_none (k := k + 1) (prsK_no HPR.out (by rw [PG2.out, opsK_none (k := j + 1) (by rw [STEP.out, if_neg he]) M (by omega)])) N (by omega)])
              have S6 := Lib.hid (S4.out.inner R6.out)
              clear he STEP ZB q0 q1 q2 q3 q4 q5 qf
              obtain ⟨q0, q1, q2, q3, q4⟩ := sc_cells S6.out.res
              have qf : ∀ o, World.frozen? w6 ⟨w.heap.size, o, none⟩ = false := fun o => frozen_of_row _ _ o _ _ S6.out.res
              go_wp2_with fail
              exact rds_end (s := zeroScr) S6.out.res S6.out.bel (Nat.le_refl _) rfl (by rw [P2.out]; rfl) (by rw [P2.out]; rfl) (fun V _ => scrAt_zero V)
        · have ejn : M = j := by omega
          subst ejn
          have S5 := Lib.hid (S4.out.inner RI.out)
          have ST2 := Lib.hid (show prsK N l3 (k + 1) = some (qs.map Pr.ops ++ [es.map (·.1)], l') from prsK_ok HPR.out (by rw [PG2.out]; exact HOP.out))
          obtain ⟨i0, hi, hzz, hzz1, hzz2⟩ := info_parts prinfo
          obtain ⟨z0, z1, z2, z3, z4⟩ := sc_cells S5.out.sb
          have zf : ∀ o, World.frozen? wr ⟨SB, o, none⟩ = false := fun o => frozen_of_row _ _ o _ _ S5.out.sb
          have B6 := Lib.hid (below1 wr (.cells #[.slice ap M cp] 45))
          have S6 := Lib.hid (S5.out.below B6.out)
          have OP6 := Lib.hid (show OpRow 0 (wr.alloc (.cells #[.slice ap M cp] 45)) (.slice ap M cp) es from (RI.out.row.low (Nat.zero_le _)).below (Nat.le_refl _) B6.out)
          have SZ6 := lt_of_heap S5.out.res
          clear RI HOP HPR S4 PG2
          go_wp2_with (at_builtin; refine wpList_append_own _ rfl _ _ 22 rfl (w.heap.size + 1) 45 i0 _ 1 24 Try.underlying22 hi hzz hzz1 hzz2 rfl (by decide) _ _ _ rfl (show World.ownsRow _ _ _ _ _ _ _ from by have h := S6.out.row.row; rw [LK.out] at h; exact h) ⟨wr.heap.size, 0, none⟩ 1 1 [.slice ap M cp] rfl rfl (fun i u hu => range_lit wr [.slice ap M cp] 45 i u hu) ?c2 ?c3 ?c4 ?c5 ?_)
          case c2 => first | (intro u hu; rw [List.mem_singleton.1 hu]; rfl) | rfl
          case c3 => unfold maxLen; omega
          case c4 => omega
          case c5 => first | omega | (simp; omega)
          intro v' w5 hown hgr _
          obtain ⟨av, cv, rfl⟩ := owns_slice hown
          obtain ⟨h5, S7⟩ := S6.out.app (x := (es, .slice ap M cp)) OP6.out (by rw [LK.out]; exact hown) hgr
          have S8 := Lib.hid S7
          clear hown hgr S7 z0 z1 z2 z3 z4 zf
          obtain ⟨z0, z1, z2, z3, z4⟩ := sc_cells h5
          have zf : ∀ o, World.frozen? w5 ⟨SB, o, none⟩ = false := fun o => frozen_of_row _ _ o _ _ h5
          go_wp2_with fail
          go_roundw
          case rel => exact ⟨k + 1, _, _, _, _, by omega, by go_num, by rw [List.map_append]; exact ST2.out, S8.out⟩
          case measure => simp [intOf] <;> omega
    · have ekn : N = k := by omega
      subst ekn
      have EX0 := Lib.hid (show pk = endX t m (qs.map Pr.ops) l from by rw [PK2.out, HPR.out])
      have TL := Lib.hid (tlist_any b l z TB 200 wr ST.out.tp (by omega))
      unfold TListPost at TL
      obtain ⟨⟨pl, r2, e1⟩, h1⟩ : ∃ x, takeL l 200 = x := ⟨_, rfl⟩
      obtain ⟨⟨dr, r3, e2⟩, h2⟩ : ∃ x, takeL r2 64 = x := ⟨_, rfl⟩
      have F1 := takeL_facts l 200 (by decide)
      have F2 := takeL_facts r2 64 (by decide)
      rw [h1] at F1 TL
      rw [h2] at F2
      obtain ⟨f1, f2, f3⟩ := F1
      obtain ⟨f4, f5, f6⟩ := F2
      dsimp only at f1 f2 f3 f4 f5 f6 TL
      obtain ⟨ps, hps⟩ : ∃ x, qs.map Pr.ops = x := ⟨_, rfl⟩
      have SN := Lib.hid (show ScrN ⟨t, m, ps, pl.map decI, dr⟩ from by rw [← hps]; exact scrN_of (by rw [List.length_map, LK.out]; omega) H32.out (by rw [List.length_map]; omega) (by omega))
      have EX := Lib.hid (show pk = if (decide (e1 = 0) && (decide (e2 = 0) && (decide (r3 = []) && decide (chkS ⟨t, m, ps, pl.map decI, dr⟩ = 0)))) = true then some ⟨t, m, ps, pl.map decI, dr⟩ else none from by
        rw [EX0.out, hps]
        simp only [endX, endOk, endS, h1, h2])
      have FL := Lib.hid (show ∀ j, j < pl.length → 0 ≤ pl.getD j 0 ∧ pl.getD j 0 ≤ 1099511627776 from fun j hj => by
        have hm : pl.getD j 0 ∈ pl := by rw [List.getD_eq_getElem?_getD, List.getElem?_eq_getElem hj]; exact List.getElem_mem _
        exact f3 _ hm)
      have HPS := Lib.hid hps
      have T2 := Lib.hid h2
      have hpl : pl.length ≤ 200 := by omega
      clear f1 f2 f3 f4 f5 f6 h1 h2 HPR H32 EX0 hps PK2
      go_wp2_with fail
      refine TL.out.mono ?_
      rintro r w4 ⟨g4, ⟨he1, vs, z4, rfl, ho4, t4⟩ | ⟨he1, rfl, t4⟩⟩
      · subst he1
        have S4 := Lib.hid (ST.out.num t4 g4)
        have R4 := Lib.hid (S4.out.plan ho4)
        obtain ⟨aS, cS, rfl⟩ := owns_slice ho4
        obtain ⟨W1, hW1⟩ : ∃ x, w4.heap.size = x := ⟨_, rfl⟩
        rw [hW1] at R4
        clear hW1 ho4 t4 g4 ST TL S4
        go_wp2_with fail
        go_loopw [104] (fun i wr => ∃ (j : Nat) (vl : Value), j ≤ pl.length ∧ i = .int .i64 j ∧ RpSt b r2 z4 t m TB SB W1 (.slice az N cz) vl (.slice aS pl.length cS) qs pl ((pl.map decI).take j) w wr) (fun i _ => pl.length - (intOf i).toNat)
        case atStart => exact ⟨0, _, by omega, rfl, R4.out⟩
        case round =>
          obtain ⟨j, vl, hj, rfl, hrp⟩ := hrel
          have hkl : ((pl.map decI).take j).length = j := by rw [List.length_take, List.length_map]; omega
          obtain ⟨al, cl, hv⟩ := owns_slice hrp.pl
          rw [hkl] at hv
          subst hv
          have RP := Lib.hid hrp
          have KL := Lib.hid hkl
          clear hrp hkl R4
          by_cases hlt : j < pl.length
          · have hlt' : (j : Int) < (pl.length : Int) := by omega
            obtain ⟨b', o', rfl, c0⟩ := slI_at (SlI.of_owns RP.out.src) j hlt
            obtain ⟨r0, r1⟩ := FL.out j hlt
            have TK := Lib.hid (show (pl.map decI).take (j + 1) = (pl.map decI).take j ++ [decI (pl.getD j 0)] from by
              rw [List.take_add_one, List.getElem?_map, List.getD_eq_getElem?_getD, List.getElem?_eq_getElem (by omega)]; rfl)
            obtain ⟨x, hx⟩ : ∃ x, pl.getD j 0 = x := ⟨_, rfl⟩
            rw [hx] at c0 r0 r1 TK
            have wr1 : IntKind.i64.wrap (x - 1) = decI x := IntWalk.i64_in _ (by omega)
            obtain ⟨y, hy⟩ : ∃ y, decI x = y := ⟨_, rfl⟩
            rw [hy] at wr1 TK
            obtain ⟨z0, z1, z2, z3, z4'⟩ := sc_cells RP.out.sb
            have zf : ∀ o, World.frozen? wr ⟨SB, o, none⟩ = false := fun o => frozen_of_row _ _ o _ _ RP.out.sb
            have B6 := Lib.hid (below1 wr (.cells #[.int .i64 y] 3))
            have R6 := Lib.hid (RP.out.below B6.out)
            have LW := R6.out.le1
            clear hx hy r0 r1
            go_wp2_with (at_builtin; refine wpList_append_ints rfl _ _ rfl W1 (.slice al j cl) j _ rfl (show World.ownsRow _ _ _ _ _ _ _ from by have h := R6.out.pl; rw [KL.out] at h; exact h) wr.heap.size 1 1 [y] rfl rfl (heap_alloc_new _ _) (by omega) (by omega) (by simp at LW ⊢; omega) ?_)
            intro g7 cap7 w7 hown hgr
            obtain ⟨h7, R7⟩ := R6.out.app (x := y) (by rw [KL.out]; exact hown) hgr
            have R8 := Lib.hid R7
            clear hown hgr R7 c0 z0 z1 z2 z3 z4' zf LW
            obtain ⟨z0, z1, z2, z3, z4'⟩ := sc_cells h7
            have zf : ∀ o, World.frozen? w7 ⟨SB, o, none⟩ = false := fun o => frozen_of_row _ _ o _ _ h7
            go_wp2_with fail
            go_roundw
            case rel => exact ⟨j + 1, _, by omega, by go_num, by rw [TK.out]; exact R8.out⟩
            case measure => simp [intOf] <;> omega
          · have ejn : j = pl.length := by omega
            subst ejn
            have TKA := Lib.hid (show (pl.map decI).take pl.length = pl.map decI from by rw [List.take_of_length_le (by rw [List.length_map]; exact Nat.le_refl _)])
            have RQ := Lib.hid (show RpSt b r2 z4 t m TB SB W1 (.slice az N cz) (.slice al pl.length cl) (.slice aS pl.length cS) qs pl (pl.map decI) w wr from by have h := RP.out; rw [TKA.out] at h; exact h)
            have TL := Lib.hid (tlist_any b r2 z4 TB 64 wr RQ.out.tp (by omega))
            unfold TListPost at TL
            rw [T2.out] at TL
            dsimp only at TL
            clear RP KL TKA T2
            go_wp2_with fail
            refine TL.out.mono ?_
            rintro r w5 ⟨g5, ⟨he2, vd, z5, rfl, ho5, t5⟩ | ⟨he2, rfl, t5⟩⟩
            · subst he2
              have R5 := Lib.hid (RQ.out.num t5 g5)
              obtain ⟨ad, cd, rfl⟩ := owns_slice ho5
              obtain ⟨FIN0, T50⟩ := R5.out.fin ho5
              have FIN1 := Lib.hid FIN0
              have T51 := Lib.hid T50
              obtain ⟨z0, z1, z2, z3, z4'⟩ := sc_cells R5.out.sb
              have zf : ∀ o, World.frozen? w5 ⟨SB, o, none⟩ = false := fun o => frozen_of_row _ _ o _ _ R5.out.sb
              clear g5 t5 ho5 FIN0 T50 TL RQ R5
              rw [HPS.out] at FIN1
              go_upto_region 33 with fail
              obtain ⟨w7, hw7⟩ : ∃ x, w5.setCell ⟨SB, 4, none⟩ (.slice ad dr.length cd) = x := ⟨_, rfl⟩
              rw [hw7] at FIN1 T51 ⊢
              clear hw7 z0 z1 z2 z3 z4' zf
              have FIN := FIN1
              clear FIN1
              obtain ⟨q0, q1, q2, q3, q4⟩ := sc_cells FIN.out.res
              have qf : ∀ o, World.frozen? w7 ⟨w.heap.size, o, none⟩ = false := fun o => frozen_of_row _ _ o _ _ FIN.out.res
              obtain ⟨z0, z1, z2, z3, z4'⟩ := sc_cells FIN.out.sb
              obtain ⟨x0, x1, xf⟩ := two_cells T51.out.blk
              have SSO := SS.out
              by_cases hr3 : r3 = []
              · have hz5 : z5 = b.length := by
                  have h1 := T51.out.drop
                  have h2 := T51.out.le
                  rw [hr3] at h1
                  have h3 := congrArg List.length h1
                  rw [List.length_drop] at h3
                  simp at h3
                  omega
                subst hz5
                obtain ⟨c, hc⟩ : ∃ c, chkS ⟨t, m, ps, pl.map decI, dr⟩ = c := ⟨_, rfl⟩
                have CK := fun W h => rscheck_any (.slice az N cz) (.slice al pl.length cl) (.slice ad dr.length cd) ⟨t, m, ps, pl.map decI, dr⟩ W h SN.out
                rw [hc] at CK EX
                unfold scrV scrC at CK
                dsimp only at CK
                have CK1 := Lib.hid (CK w7 FIN.out.now)
                clear CK hc
                go_wp2_with fail
                refine CK1.out.mono ?_
                rintro e w8 ⟨rfl, hB8⟩
                have F8 := Lib.hid (FIN.out.below hB8)
                clear hB8 q0 q1 q2 q3 q4 qf z0 z1 z2 z3 z4' x0 x1 xf
                obtain ⟨q0, q1, q2, q3, q4⟩ := sc_cells F8.out.res
                have qf : ∀ o, World.frozen? w8 ⟨w.heap.size, o, none⟩ = false := fun o => frozen_of_row _ _ o _ _ F8.out.res
                obtain ⟨z0, z1, z2, z3, z4'⟩ := sc_cells F8.out.sb
                by_cases hc0 : c = 0
                · subst hc0
                  have P2 := Lib.hid (show pk = some ⟨t, m, ps, pl.map decI, dr⟩ from by rw [EX.out]; simp [hr3])
                  clear EX
                  go_wp2_with fail
                  exact rds_end (s := ⟨t, m, ps, pl.map decI, dr⟩) F8.out.res F8.out.bel (Nat.le_refl _) rfl (by rw [P2.out]; rfl) (by rw [P2.out]; rfl) (fun V hV => F8.out.scr F8.out.res hV)
                · have hc1 : (c != 0) = true := by simpa using hc0
                  have hc2 : (c == 0) = false := beq_eq_false_iff_ne.2 hc0
                  have P2 := Lib.hid (show pk = none from by rw [EX.out]; simp [hc0])
                  clear EX hc0
                  go_wp2_with fail
                  exact rds_end (s := zeroScr) F8.out.res F8.out.bel (Nat.le_refl _) rfl (by rw [P2.out]; rfl) (by rw [P2.out]; rfl) (fun V _ => scrAt_zero V)
              · have hz5 : z5 < b.length := by
                  have h1 := T51.out.drop
                  have h2 := T51.out.le
                  rcases Nat.lt_or_ge z5 b.length with h | h
                  · exact h
                  · rw [List.drop_eq_nil_of_le h] at h1
                    exact absurd h1 hr3
                have hz6 : ¬ z5 = b.length := by omega
                have hz7 : ((z5 : Int) != (b.length : Int)) = true := by simpa using (show ¬ (z5 : Int) = (b.length : Int) by omega)
                have hz8 : ((z5 : Int) == (b.length : Int)) = false := beq_eq_false_iff_ne.2 (by omega)
                have P2 := Lib.hid (show pk = none from by rw [EX.out]; simp [hr3])
                clear EX hr3
                go_wp2_with fail
                exact rds_end (s := zeroScr) FIN.out.res FIN.out.bel (Nat.le_refl _) rfl (by rw [P2.out]; rfl) (by rw [P2.out]; rfl) (fun V _ => scrAt_zero V)
            · have R5 := Lib.hid (RQ.out.num t5 g5)
              have FIN := Lib.hid (R5.out.fin (vd := .slice none 0 0) (dr := []) (b2 := 0) (World.ownsRow_nil _ _ _ _)).1
              obtain ⟨z0, z1, z2, z3, z4'⟩ := sc_cells R5.out.sb
              have zf : ∀ o, World.frozen? w5 ⟨SB, o, none⟩ = false := fun o => frozen_of_row _ _ o _ _ R5.out.sb
              have P2 := Lib.hid (show pk = none from by rw [EX.out]; simp [he2])
              clear g5 t5 TL RQ R5 EX he2
              go_upto_region 33 with fail
              obtain ⟨w7, hw7⟩ : ∃ x, w5.setCell ⟨SB, 4, none⟩ (.slice none 0 0) = x := ⟨_, rfl⟩
              rw [hw7] at FIN ⊢
              clear hw7 z0 z1 z2 z3 z4' zf
              obtain ⟨q0, q1, q2, q3, q4⟩ := sc_cells FIN.out.res
              have qf : ∀ o, World.frozen? w7 ⟨w.heap.size, o, none⟩ = false := fun o => frozen_of_row _ _ o _ _ FIN.out.res
              go_wp2_with fail
              exact rds_end (s := zeroScr) FIN.out.res FIN.out.bel (Nat.le_refl _) rfl (by rw [P2.out]; rfl) (by rw [P2.out]; rfl) (fun V _ => scrAt_zero V)
      · have S4 := Lib.hid (ST.out.num t4 g4)
        have P2 := Lib.hid (show pk = none from by rw [EX.out]; simp [he1])
        clear g4 t4 ST TL EX he1
        obtain ⟨q0, q1, q2, q3, q4⟩ := sc_cells S4.out.res
        have qf : ∀ o, World.frozen? w4 ⟨w.heap.size, o, none⟩ = false := fun o => frozen_of_row _ _ o _ _ S4.out.res
        go_wp2_with fail
        exact rds_end (s := zeroScr) S4.out.res S4.out.bel (Nat.le_refl _) rfl (by rw [P2.out]; rfl) (by rw [P2.out]; rfl) (fun V _ => scrAt_zero V)
end Go.Proofs.Ytpefjcmaggimhaa

