
/-
  Package sheet: the walk of Decode.
-/
import Derived.Test.YtpefjcmaggimhaaSheL
namespace Go.Proofs.Ytpefjcmaggimhaa
open Go.RowKit
set_option linter.unusedVariables false
set_option linter.unusedSimpArgs false
set_option maxRecDepth 100000

def DSPost (x : Option Scr) (w : World) (r : Ending) (w' : World) : Prop :=
  ∃ vp vl vd, r = .returned (.tuple #[scrV vp vl vd (optS x), .int .i64 (optF x)]) ∧ ScrAt w' vp vl vd (optS x) ∧ Below w.heap.size w w'
theorem sc_cells {w : World} {b : Nat} {vp vl vd : Value} {s : Scr} (h : w.heap[b]? = some (.cells (scrC vp vl vd s) 25 (0, 0))) :
    w.cell? ⟨b, 0, none⟩ = some (.int .i64 s.t) ∧ w.cell? ⟨b, 1, none⟩ = some (.int .i64 s.m) ∧ w.cell? ⟨b, 2, none⟩ = some vp ∧ w.cell? ⟨b, 3, none⟩ = some vl ∧ w.cell? ⟨b, 4, none⟩ = some vd := by
  refine ⟨?_, ?_, ?_, ?_, ?_⟩ <;> simp [World.cell?, h, scrC]
theorem ds_at {x : Option Scr} {w V : World} {B : Nat} {vp vl vd : Value} {s : Scr} {tmps : Array Value} (hc : V.heap[B]? = some (Obj.cells (scrC vp vl vd s) 25 (0, 0))) (hb : Below w.heap.size w V)
    (ht : tmps.getD 2 undef = .pointer (some ⟨B, 0, none⟩)) (hx : optS x = s) (hf : Value.int .i64 (optF x) = tmps.getD 3 undef) (hs : ScrAt V vp vl vd s) :
    bodyPost Try.prog Try.f14 (DSPost x w) Exit.ret { tmps := tmps, defers := [] } V := by
  obtain ⟨z0, z1, z2, z3, z4⟩ := sc_cells hc
  have ht' : tmps[2]?.getD undef = .pointer (some ⟨B, 0, none⟩) := by simpa using ht
  refine bodyPost_ret (v := .tuple #[scrV vp vl vd s, tmps.getD 3 undef]) ?_ rfl ⟨vp, vl, vd, by rw [hx, hf], by rw [hx]; exact hs, hb⟩
  simp [results, Try.results14, ht', asAddr, go_sem, z0, z1, z2, z3, z4, scrV, scrC]
theorem scrAt_zero (w : World) : ScrAt w (.slice none 0 0) (.slice none 0 0) (.slice none 0 0) zeroScr :=
  ⟨PrsOf.nil w, ⟨none, 0, rfl, fun h => by simp [zeroScr] at h⟩, ⟨none, 0, rfl, fun h => by simp [zeroScr] at h⟩⟩
theorem ds_end {x : Option Scr} {w W : World} {B : Nat} {vp vl vd ep el ed : Value} {s s0 : Scr} {tmps : Array Value} (h : W.heap[B]? = some (Obj.cells (scrC ep el ed s0) 25 (0, 0))) (hB : Below w.heap.size w W) (hle : w.heap.size ≤ B)
    (ht : tmps.getD 2 undef = .pointer (some ⟨B, 0, none⟩)) (hx : optS x = s) (hf : Value.int .i64 (optF x) = tmps.getD 3 undef) (hs : ∀ V, W.grownBy V (some B) → ScrAt V vp vl vd s) :
    bodyPost Try.prog Try.f14 (DSPost x w) Exit.ret { tmps := tmps, defers := [] }
      (((((W.setCell ⟨B, 0, none⟩ (.int .i64 s.t)).setCell ⟨B, 1, none⟩ (.int .i64 s.m)).setCell ⟨B, 2, none⟩ vp).setCell ⟨B, 3, none⟩ vl).setCell ⟨B, 4, none⟩ vd) := by
  obtain ⟨V, hV⟩ : ∃ V, (((((W.setCell ⟨B, 0, none⟩ (.int .i64 s.t)).setCell ⟨B, 1, none⟩ (.int .i64 s.m)).setCell ⟨B, 2, none⟩ vp).setCell ⟨B, 3, none⟩ vl).setCell ⟨B, 4, none⟩ vd) = V := ⟨_, rfl⟩
  have hc : V.heap[B]? = some (Obj.cells (scrC vp vl vd s) 25 (0, 0)) := by
    rw [← hV]
    have h0 := heap_setCell_same _ _ 0 _ _ (.int .i64 s.t) h
    have h1 := heap_setCell_same _ _ 1 _ _ (.int .i64 s.m) h0
    have h2 := heap_setCell_same _ _ 2 _ _ vp h1
    have h3 := heap_setCell_same _ _ 3 _ _ vl h2
    have h4 := heap_setCell_same _ _ 4 _ _ vd h3
    rw [h4]
    simp [scrC]
  have hb : Below w.heap.size w V := by
    rw [← hV]
    exact ((((hB.setCell hle _).setCell hle _).setCell hle _).setCell hle _).setCell hle _
  have hg : W.grownBy V (some B) := by
    rw [← hV]
    exact ((((gr_set W ⟨B, 0, none⟩ _).trans (gr_set _ ⟨B, 1, none⟩ _)).trans (gr_set _ ⟨B, 2, none⟩ _)).trans (gr_set _ ⟨B, 3, none⟩ _)).trans (gr_set _ ⟨B, 4, none⟩ _)
  rw [hV]
  exact ds_at hc hb ht hx hf (hs _ hg)
set_option maxHeartbeats 4000000 in
theorem sdecode_any (b : List UInt8) (w : World) (hl : b.length ≤ 100000) : Calls Try.prog 14 #[bs b] w (DSPost (decX b) w) := by
  have R0 := Lib.hid (show (w.alloc (.cells (scrC (.slice none 0 0) (.slice none 0 0) (.slice none 0 0) zeroScr) 25)).heap[w.heap.size]? = some (Obj.cells (scrC (.slice none 0 0) (.slice none 0 0) (.slice none 0 0) zeroScr) 25 (0, 0)) from heap_alloc_new _ _)
  have HD := Lib.hid (head_any _ [256, 1048576, 8] b _ (slI_lit (w.alloc (.cells (scrC (.slice none 0 0) (.slice none 0 0) (.slice none 0 0) zeroScr) 25)) [256, 1048576, 8]) (by simp) (by omega))
  rw [World.size_alloc] at HD
  unfold HeadPost at HD
  obtain ⟨pk, hpk⟩ : ∃ x, decX b = x := ⟨_, rfl⟩
  rw [hpk]
  have PK := Lib.hid hpk
  clear hpk
  go_enter Try.func14, Try.ntmps14
  go_wp2_with fail
  refine HD.out.mono ?_
  rintro r w1 ⟨hB, ⟨l, t, v, hk, rfl, hown⟩ | ⟨hk, rfl⟩⟩
  · obtain ⟨rfl, rfl, -, ht3⟩ := head3 hk
    have B1 := Lib.hid (show Below w.heap.size w w1 from ((below1 _ _).trans ((below1 _ _).mono (by simp))).trans (hB.mono (by simp; omega)))
    have R1 := Lib.hid ((hB.block w.heap.size (by simp; omega)).trans ((heap_alloc_old _ _ (by simp)).trans R0.out))
    have O1 := Lib.hid (owns_low (base' := w.heap.size + 1) hown (by simp))
    obtain ⟨t, ht⟩ : ∃ x, takV b = x := ⟨_, rfl⟩
    obtain ⟨m, hm⟩ : ∃ x, takV (takR b) = x := ⟨_, rfl⟩
    obtain ⟨r0, hr0⟩ : ∃ x, takR (takR (takR b)) = x := ⟨_, rfl⟩
    have hn0 := (takV_bd (takR (takR b))).1
    have PK2 := Lib.hid (show pk = match prsK (takV (takR (takR b))) r0 (takV (takR (takR b))).toNat with | none => none | some (ps, r') => endX t m ps r' from by rw [← PK.out, ← ht, ← hm, ← hr0]; unfold decX; rw [show headK [256, 1048576, 8] b 3 = _ from hk]; rfl)
    obtain ⟨n, hn⟩ := Int.eq_ofNat_of_zero_le hn0
    have HL := Lib.hid (show r0.length ≤ b.length from by rw [← hr0]; exact Nat.le_trans (takR_len _) (Nat.le_trans (takR_len _) (takR_len _)))
    rw [ht, hm, hn] at O1
    rw [hn] at PK2 ht3
    rw [hr0]
    rw [Int.toNat_natCast] at PK2
    have hn8 : n ≤ 8 := by omega
    clear hk hown hB HD PK R0 hn0 hn ht hm hr0 ht3
    obtain ⟨ao, ca, hv⟩ := owns_slice O1.out
    change v = .slice ao 3 ca at hv
    subst hv
    obtain ⟨b1, o1, rfl, c0⟩ := slI_at (SlI.of_owns O1.out) 0 (by simp)
    obtain ⟨b1', o1', e1, c1⟩ := slI_at (SlI.of_owns O1.out) 1 (by simp)
    obtain ⟨b1'', o1'', e2, c2⟩ := slI_at (SlI.of_owns O1.out) 2 (by simp)
    cases e1
    cases e2
    rw [show [t, m, (n : Int)].getD 0 0 = t from rfl] at c0
    rw [show [t, m, (n : Int)].getD 1 0 = m from rfl] at c1
    rw [show [t, m, (n : Int)].getD 2 0 = n from rfl] at c2
    rw [Nat.add_zero] at c0
    go_wp2_with fail
    go_region_held3 (fun w' => w'.cell? ⟨b1, o1, none⟩ = some (.int .i64 t) ∧ w'.cell? ⟨b1, o1 + 1, none⟩ = some (.int .i64 m)) (go_keep) (fail)
    obtain ⟨A, hA⟩ : ∃ o, Obj.cells #[Value.int .i64 t, Value.int .i64 m, Value.slice none 0 0, Value.slice none 0 0, Value.slice none 0 0] 25 = o := ⟨_, rfl⟩
    rw [hA]
    have SZ1 := B1.out.size
    have S0 : DsSt (.slice (some ⟨b1, o1, none⟩) 3 ca) t m n w1.heap.size (.slice none 0 0) [] w (w1.alloc A).drew := DsSt.below (w := w1.alloc A)
      ⟨(heap_alloc_old _ _ (lt_of_heap R1.out)).trans R1.out, by rw [← hA]; exact heap_alloc_new _ _, O1.out.alloc _, PrRow.nil _ _, B1.out.alloc SZ1 _, lt_of_heap R1.out⟩ (Below.refl _ _).drew
    obtain ⟨SB, hSB⟩ : ∃ x, w1.heap.size = x := ⟨_, rfl⟩
    rw [hSB] at S0 ⊢
    obtain ⟨w2, hw2⟩ : ∃ x, (w1.alloc A).drew = x := ⟨_, rfl⟩
    rw [hw2] at S0 ⊢
    have SS := Lib.hid S0
    clear hw2 hSB hA S0 SZ1 c0 c1 c2 R1 B1 O1
    obtain ⟨_, _, e2, c2⟩ := slI_at (SlI.of_owns SS.out.nn) 2 (by simp)
    cases e2
    rw [show [t, m, (n : Int)].getD 2 0 = n from rfl] at c2
    go_wp2_with fail
    go_loopw [35, 0] (fun i s wr => ∃ (k : Nat) (v : Value) (qs : List Pr) (r : List UInt8), k ≤ n ∧ i = .int .i64 k ∧ prsK n r0 k = some (qs.map Pr.ops, r) ∧ s = bs r ∧ DsSt (.slice (some ⟨b1, o1, none⟩) 3 ca) t m n SB v qs w wr) (fun i _ _ => n - (intOf i).toNat)
    case atStart => exact ⟨0, _, [], r0, by omega, rfl, rfl, rfl, SS.out⟩
    case round =>
      obtain ⟨k, v, qs, r, hk, rfl, hpr, rfl, hst⟩ := hrel
      obtain ⟨hlk, hrl, h32⟩ := prsK_facts hpr
      rw [List.length_map] at hlk
      obtain ⟨az, cz, hv⟩ := owns_slice hst.row.row
      rw [hlk] at hv
      subst hv
      have ST := Lib.hid hst
      have HPR := Lib.hid hpr
      have LK := Lib.hid hlk
      have H32 := Lib.hid h32
      have hl0 := HL.out
      have hrl' : r.length ≤ 100000 := by omega
      clear hst hpr hlk c2 SS hrl hl0 h32
      obtain ⟨_, _, e2, c2⟩ := slI_at (SlI.of_owns ST.out.nn) 2 (by simp)
      cases e2
      rw [show [t, m, (n : Int)].getD 2 0 = n from rfl] at c2
      by_cases hlt : k < n
      · have hlt' : (k : Int) < (n : Int) := by omega
        have PG := Lib.hid (program_any n r wr (by omega))
        unfold ProgPost at PG
        go_wp2_with fail
        refine PG.out.mono ?_
        rintro e w3 ⟨hB3, ⟨es, tr, vp, hp, rfl, hop⟩ | ⟨hp, rfl⟩⟩
        · have S3 := Lib.hid (ST.out.below hB3)
          have ST2 := Lib.hid (show prsK n r0 (k + 1) = some (qs.map Pr.ops ++ [es.map (·.1)], tr) from prsK_ok HPR.out hp)
          have OP := Lib.hid hop
          obtain ⟨ap, cp, hvp⟩ := owns_slice hop.row
          subst hvp
          have SZ3 := S3.out.bel.size
          clear hp hop hB3 PG c2
          obtain ⟨i0, hi, hz0, hzz1, hz2⟩ := info_parts prinfo
          obtain ⟨z0, z1, z2, z3, z4⟩ := sc_cells S3.out.sb
          have zf : ∀ o, World.frozen? w3 ⟨SB, o, none⟩ = false := fun o => frozen_of_row _ _ o _ _ S3.out.sb
          have B4 := Lib.hid (below1 w3 (.cells #[.slice ap es.length cp] 45))
          have S4 := Lib.hid (S3.out.below B4.out)
          have OP4 := Lib.hid ((OP.out.low (Nat.zero_le _)).below (Nat.le_refl _) B4.out)
          go_wp2_with (at_builtin; refine wpList_append_own _ rfl _ _ 22 rfl (w.heap.size + 1) 45 i0 _ 1 24 Try.underlying22 hi hz0 hzz1 hz2 rfl (by decide) _ _ _ rfl (show World.ownsRow _ _ _ _ _ _ _ from by have h := S4.out.row.row; rw [LK.out] at h; exact h) ⟨w3.heap.size, 0, none⟩ 1 1 [.slice ap es.length cp] rfl rfl ?c1 ?c2 ?c3 ?c4 ?c5 ?_)
          case c1 => exact fun i u hu => range_lit w3 [.slice ap es.length cp] 45 i u hu
          case c2 => intro u hu; rw [List.mem_singleton.1 hu]; rfl
          case c3 => unfold maxLen; omega
          case c4 => omega
          case c5 => have := S4.out.row.row.lt; have := lt_of_heap S3.out.res; simp; omega
          intro v' w5 hown hgr _
          obtain ⟨av, cv, rfl⟩ := owns_slice hown
          obtain ⟨h5, S5⟩ := S4.out.app (x := (es, .slice ap es.length cp)) OP4.out (by rw [LK.out]; exact hown) hgr
          have S6 := Lib.hid S5
          clear hown hgr S5 z0 z1 z2 z3 z4 zf
          obtain ⟨z0, z1, z2, z3, z4⟩ := sc_cells h5
          have zf : ∀ o, World.frozen? w5 ⟨SB, o, none⟩ = false := fun o => frozen_of_row _ _ o _ _ h5
          go_wp2_with fail
          go_roundw
          case rel => exact ⟨k + 1, _, _, tr, by omega, by go_num, by rw [List.map_append]; exact ST2.out, rfl, S6.out⟩
          case measure => simp [intOf] <;> omega
        · have S3 := Lib.hid (ST.out.below hB3)
          have P2 := Lib.hid (show pk = none from by rw [PK2.out, prsK_none (k := k + 1) (prsK_no HPR.out hp) n (by omega)])
          clear hp hB3 PG c2
          obtain ⟨z0, z1, z2, z3, z4⟩ := sc_cells S3.out.res
          have zf : ∀ o, World.frozen? w3 ⟨w.heap.size, o, none⟩ = false := fun o => frozen_of_row _ _ o _ _ S3.out.res
          go_wp2_with fail
          exact ds_end (s := zeroScr) S3.out.res S3.out.bel (Nat.le_refl _) rfl (by rw [P2.out]; rfl) (by rw [P2.out]; rfl) (fun V _ => scrAt_zero V)
      · have ekn : n = k := by omega
        subst ekn
        obtain ⟨⟨pl, r2, e1⟩, h1⟩ : ∃ x, takeL r 200 = x := ⟨_, rfl⟩
        obtain ⟨⟨dr, r3, e2⟩, h2⟩ : ∃ x, takeL r2 64 = x := ⟨_, rfl⟩
        have F1 := takeL_facts r 200 (by decide)
        have F2 := takeL_facts r2 64 (by decide)
        rw [h1] at F1
        rw [h2] at F2
        obtain ⟨f1, f2, f3⟩ := F1
        obtain ⟨f4, f5, f6⟩ := F2
        dsimp only at f1 f2 f3 f4 f5 f6
        have TK1 := Lib.hid (takeL_any r 200 wr (by omega))
        have TK2 := Lib.hid (fun W => takeL_any r2 64 W (by omega))
        unfold TLPost at TK1 TK2
        rw [h1] at TK1
        rw [h2] at TK2
        dsimp only at TK1 TK2
        have FL := Lib.hid (show ∀ j, j < pl.length → -4611686018427387904 ≤ pl.getD j 0 ∧ pl.getD j 0 ≤ 4611686018427387904 from fun j hj => by
          have hm : pl.getD j 0 ∈ pl := by rw [List.getD_eq_getElem?_getD, List.getElem?_eq_getElem hj]; exact List.getElem_mem _
          have := f3 _ hm
          omega)
        obtain ⟨ps, hps⟩ : ∃ x, qs.map Pr.ops = x := ⟨_, rfl⟩
        have SN := Lib.hid (show ScrN ⟨t, m, ps, pl.map decI, dr⟩ from by rw [← hps]; exact scrN_of (by rw [List.length_map, LK.out]; omega) H32.out (by rw [List.length_map]; omega) (by omega))
        have EX := Lib.hid (show pk = if (decide (e1 = 0) && (decide (e2 = 0) && (decide (r3 = []) && decide (chkS ⟨t, m, ps, pl.map decI, dr⟩ = 0)))) = true then some ⟨t, m, ps, pl.map decI, dr⟩ else none from by
          rw [PK2.out, HPR.out, hps]
          show endX t m ps r = _
          simp only [endX, endOk, endS, h1, h2])
        have hpl : pl.length ≤ 200 := by omega
        clear f1 f2 f3 f4 f5 f6 h1 h2 c2 HPR H32
        go_wp2_with fail
        refine TK1.out.mono ?_
        rintro e w4 ⟨v4, rfl, ho4, hB4⟩
        have S4 := Lib.hid (ST.out.below hB4)
        have O4 := Lib.hid ho4
        clear ho4 hB4 TK1
        go_wp2_with fail
        refine (TK2.out w4).mono ?_
        rintro e w5 ⟨v5, rfl, ho5, hB5⟩
        have S5 := Lib.hid (S4.out.below hB5)
        have O5 := Lib.hid ho5
        have P5 := Lib.hid (O4.out.kept (below_none hB5) (by cases v4.ownBlock <;> simp))
        clear ho5 hB5 TK2
        go_wp2_with fail
        refine (each_dec1 v4 pl w5 (SlI.of_owns P5.out) (by omega) FL.out).mono ?_
        rintro e w6 ⟨v6, rfl, ho6, hB6⟩
        have S6 := Lib.hid (S5.out.below hB6)
        have O6 := Lib.hid (show w6.ownsRow w5.heap.size 3 1 v6 (pl.map decI).length (ints (pl.map decI)) from by rw [List.length_map]; exact ho6)
        have D6 := Lib.hid (O5.out.kept (below_none hB6) (by cases v5.ownBlock <;> simp))
        obtain ⟨a6, c6, rfl⟩ := owns_slice ho6
        obtain ⟨a5, c5, rfl⟩ := owns_slice D6.out
        have FIN := Lib.hid (S6.out.fin O6.out D6.out)
        rw [hps] at FIN
        clear ho6 hB6
        obtain ⟨z0, z1, z2, z3, z4⟩ := sc_cells S6.out.sb
        have zf : ∀ o, World.frozen? w6 ⟨SB, o, none⟩ = false := fun o => frozen_of_row _ _ o _ _ S6.out.sb
        go_upto_region 15 with fail
        obtain ⟨w7, hw7⟩ : ∃ x, ((w6.setCell ⟨SB, 3, none⟩ (.slice a6 pl.length c6)).setCell ⟨SB, 4, none⟩ (.slice a5 dr.length c5)) = x := ⟨_, rfl⟩
        rw [hw7] at FIN ⊢
        clear hw7 z0 z1 z2 z3 z4 zf S6 S5 S4 O4 O5 O6 P5 D6 ST
        obtain ⟨q0, q1, q2, q3, q4⟩ := sc_cells FIN.out.res
        have qf : ∀ o, World.frozen? w7 ⟨w.heap.size, o, none⟩ = false := fun o => frozen_of_row _ _ o _ _ FIN.out.res
        obtain ⟨z0, z1, z2, z3, z4⟩ := sc_cells FIN.out.sb
        by_cases he1 : e1 = 0
        · subst he1
          by_cases he2 : e2 = 0
          · subst he2
            by_cases hr3 : r3 = []
            · subst hr3
              obtain ⟨c, hc⟩ : ∃ c, chkS ⟨t, m, ps, pl.map decI, dr⟩ = c := ⟨_, rfl⟩
              have CK := fun W h => scheck_any (.slice az n cz) (.slice a6 pl.length c6) (.slice a5 dr.length c5) ⟨t, m, ps, pl.map decI, dr⟩ W h SN.out
              rw [hc] at CK EX
              unfold scrV scrC at CK
              dsimp only at CK
              have CK1 := Lib.hid (CK w7 FIN.out.now)
              clear CK hc
              go_wp2_with fail
              refine CK1.out.mono ?_
              rintro e w8 ⟨rfl, hB8⟩
              have F8 := Lib.hid (FIN.out.below hB8)
              clear hB8 q0 q1 q2 q3 q4 qf z0 z1 z2 z3 z4
              obtain ⟨q0, q1, q2, q3, q4⟩ := sc_cells F8.out.res
              have qf : ∀ o, World.frozen? w8 ⟨w.heap.size, o, none⟩ = false := fun o => frozen_of_row _ _ o _ _ F8.out.res
              obtain ⟨z0, z1, z2, z3, z4⟩ := sc_cells F8.out.sb
              by_cases hc0 : c = 0
              · subst hc0
                have P2 := Lib.hid (show pk = some ⟨t, m, ps, pl.map decI, dr⟩ from by rw [EX.out]; simp)
                clear EX
                go_wp2_with fail
                exact ds_end (s := ⟨t, m, ps, pl.map decI, dr⟩) F8.out.res F8.out.bel (Nat.le_refl _) rfl (by rw [P2.out]; rfl) (by rw [P2.out]; rfl) (fun V hV => F8.out.scr F8.out.res hV)
              · have hc1 : (c != 0) = true := by simpa using hc0
                have hc2 : (c == 0) = false := beq_eq_false_iff_ne.2 hc0
                have P2 := Lib.hid (show pk = none from by rw [EX.out]; simp [hc0])
                clear EX hc0
                go_wp2_with fail
                exact ds_end (s := zeroScr) F8.out.res F8.out.bel (Nat.le_refl _) rfl (by rw [P2.out]; rfl) (by rw [P2.out]; rfl) (fun V _ => scrAt_zero V)
            · have hr1 : (r3 == []) = false := beq_eq_false_iff_ne.2 hr3
              have hr2 : (r3 != []) = true := by simpa using hr3
              have P2 := Lib.hid (show pk = none from by rw [EX.out]; simp [hr3])
              clear EX hr3
              go_wp2_with fail
              exact ds_end (s := zeroScr) FIN.out.res FIN.out.bel (Nat.le_refl _) rfl (by rw [P2.out]; rfl) (by rw [P2.out]; rfl) (fun V _ => scrAt_zero V)
          · have hc1 : (e2 != 0) = true := by simpa using he2
            have hc2 : (e2 == 0) = false := beq_eq_false_iff_ne.2 he2
            have P2 := Lib.hid (show pk = none from by rw [EX.out]; simp [he2])
            clear EX he2
            go_wp2_with fail
            exact ds_end (s := zeroScr) FIN.out.res FIN.out.bel (Nat.le_refl _) rfl (by rw [P2.out]; rfl) (by rw [P2.out]; rfl) (fun V _ => scrAt_zero V)
        · have hc1 : (e1 != 0) = true := by simpa using he1
          have hc2 : (e1 == 0) = false := beq_eq_false_iff_ne.2 he1
          have P2 := Lib.hid (show pk = none from by rw [EX.out]; simp [he1])
          clear EX he1
          go_wp2_with fail
          exact ds_end (s := zeroScr) FIN.out.res FIN.out.bel (Nat.le_refl _) rfl (by rw [P2.out]; rfl) (by rw [P2.out]; rfl) (fun V _ => scrAt_zero V)
  · have B1 := Lib.hid (show Below w.heap.size w w1 from ((below1 _ _).trans ((below1 _ _).mono (by simp))).trans (hB.mono (by simp; omega)))
    have R1 := Lib.hid ((hB.block w.heap.size (by simp; omega)).trans ((heap_alloc_old _ _ (by simp)).trans R0.out))
    have P2 := Lib.hid (show pk = none from by rw [← PK.out]; unfold decX; rw [show headK [256, 1048576, 8] b 3 = _ from hk])
    clear hk hB HD R0
    obtain ⟨z0, z1, z2, z3, z4⟩ := sc_cells R1.out
    have zf : ∀ o, World.frozen? w1 ⟨w.heap.size, o, none⟩ = false := fun o => frozen_of_row _ _ o _ _ R1.out
    go_wp2_with fail
    refine ds_end (s := zeroScr) R1.out B1.out (Nat.le_refl _) ?_ (by rw [P2.out]; rfl) (by rw [P2.out]; rfl) (fun V _ => scrAt_zero V)
    rfl
end Go.Proofs.Ytpefjcmaggimhaa

