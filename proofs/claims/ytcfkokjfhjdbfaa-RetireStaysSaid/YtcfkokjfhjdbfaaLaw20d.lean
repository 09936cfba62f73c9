
/-
  staithelaw20: RetireStays.
-/
import Derived.Test.YtcfkokjfhjdbfaaStay
namespace Go.Proofs.Ytcfkokjfhjdbfaa
open Go.RowKit
set_option linter.unusedVariables false
set_option linter.unusedSimpArgs false
set_option maxRecDepth 100000

set_option maxHeartbeats 4000000 in
theorem stays_law (t : Int) (va vj : Value) (xs : List (List Int)) (js : List (Int × Int)) (w : World) (ha : RowsOf w va xs) (hcap : ∀ ao n c, va = .slice ao n c → n ≤ c) (hj : JsOf w vj js) :
    Calls Try.prog 6 #[.int .i64 t, va, vj] w (RetB (.bool true) w) := by
  have hnil : RowsOf w (.slice none 0 0) [] := ⟨none, 0, rfl, fun _ => ⟨rfl, rfl⟩, fun h => by simp at h⟩
  have HA := Lib.hid ha
  have HJ := Lib.hid hj
  obtain ⟨ao, ca, rfl, hno, hca⟩ := ha
  obtain ⟨jo, cj, rfl, hcj⟩ := hj
  have hcap := hcap _ _ _ rfl
  clear hcj hca
  cases hl : largeB xs [] with
  | true =>
    have HL := Lib.hid hl
    clear hl
    go_enter Try.func6, Try.ntmps6
    go_wp2_with fail
    refine (large_any _ _ xs [] w HA.out hnil).mono ?_
    rintro r w1 ⟨rfl, rfl⟩
    rw [HL.out]
    go_wp2_with fail
    refine (settled_any _).mono ?_
    rintro r w2 ⟨rfl, hB⟩
    go_wp2_with fail
    go_ret
    exact ⟨rfl, hB⟩
  | false =>
    have HL := Lib.hid hl
    obtain ⟨hxl, _⟩ := large_len hl
    clear hl
    by_cases hj1 : 100 < js.length
    · have hj1' : (100 : Int) < js.length := by omega
      go_enter Try.func6, Try.ntmps6
      go_wp2_with fail
      refine (large_any _ _ xs [] w HA.out hnil).mono ?_
      rintro r w1 ⟨rfl, rfl⟩
      rw [HL.out]
      go_wp2_with fail
      refine (settled_any _).mono ?_
      rintro r w2 ⟨rfl, hB⟩
      go_wp2_with fail
      go_ret
      exact ⟨rfl, hB⟩
    · have hj1' : (js.length : Int) ≤ 100 := by omega
      by_cases hx2 : xs.length < 2
      · have hx2' : (xs.length : Int) < 2 := by omega
        go_enter Try.func6, Try.ntmps6
        go_wp2_with fail
        refine (large_any _ _ xs [] w HA.out hnil).mono ?_
        rintro r w1 ⟨rfl, rfl⟩
        rw [HL.out]
        go_wp2_with fail
        refine (settled_any _).mono ?_
        rintro r w2 ⟨rfl, hB⟩
        go_wp2_with fail
        go_ret
        exact ⟨rfl, hB⟩
      · have hx2' : (2 : Int) ≤ xs.length := by omega
        obtain ⟨n, hn⟩ : ∃ n, xs.length / 2 = n := ⟨_, rfl⟩
        have hn1 : 1 ≤ n ∧ n < xs.length := by omega
        have hdiv : (xs.length : Int) / 2 = (n : Int) := by omega
        have b1 : (0 : Int) ≤ (n : Int) := by omega
        have b2 : (n : Int) ≤ (xs.length : Int) := by omega
        have b3 : (n : Int) ≤ (ca : Int) := by omega
        have b4 : (xs.length : Int) ≤ (ca : Int) := by omega
        have b5 : ¬ ca = n := by omega
        obtain ⟨g, z, rfl, htake, hdrop⟩ := HA.out.parts n hn1.2
        have HTK := Lib.hid htake
        have HDR := Lib.hid hdrop
        clear htake hdrop
        go_enter Try.func6, Try.ntmps6
        go_wp2_with fail
        refine (large_any _ _ xs [] w HA.out hnil).mono ?_
        rintro r w1 ⟨rfl, rfl⟩
        rw [HL.out]
        go_wp2_with fail
        refine (all_any _ _ _ (HTK.out ca) (by rw [List.length_take]; omega)).mono ?_
        rintro r w1 ⟨as', nss, F, vC, vW, rfl, hR, hna, hB1⟩
        obtain ⟨ac, cc, rfl⟩ := owns_slice hR.rowC
        obtain ⟨aw, cw, rfl⟩ := owns_slice hR.rowW
        have hna' : as'.length ≤ 60 := by rw [List.length_take] at hna; omega
        have HR1 := Lib.hid hR
        have BB1 := Lib.hid hB1
        have hsz1 := hB1.size
        have LOW := Lib.hid (show ∀ b k, F b = some k → b < w1.heap.size + 1 ∧ (0 < k.xs.length → k.arr < w1.heap.size + 1) from fun b k e => ⟨by have := (hR.fam.here b k e).lt; omega, fun hp => by have := (hR.fam.here b k e).arr_lt hp; omega⟩)
        have P1 := BothAt.new w1 (.slice ac as'.length cc) (.slice aw nss.length cw)
        have BA := Lib.hid ((Below.refl w1.heap.size w1).alloc (Nat.le_refl _) (.cells #[.slice ac as'.length cc, .slice aw nss.length cw] 28))
        have BB1' := Lib.hid (BB1.out.alloc BB1.out.size (.cells #[.slice ac as'.length cc, .slice aw nss.length cw] 28))
        clear hR hB1 hna
        go_wp2_with fail
        refine (all_any _ _ _ ((HDR.out (ca - n)).below (Nat.le_refl _) BB1'.out) (by rw [List.length_drop]; omega)).mono ?_
        rintro r w2 ⟨bs', mss, G, vD, vX, rfl, hR, hm, hB2⟩
        rw [size_alloc] at hR
        obtain ⟨ad, cd, rfl⟩ := owns_slice hR.rowC
        obtain ⟨ax, cx, rfl⟩ := owns_slice hR.rowW
        have hm' : bs'.length ≤ 60 := by rw [List.length_drop] at hm; omega
        have P1' := P1.below hB2
        have R1 := Lib.hid ((HR1.out.below BA.out).below hB2)
        have R2 := Lib.hid hR
        have BB2 := Lib.hid (below_trans BB1'.out hB2 BB1'.out.size)
        have d0 := (P1'.below ((Below.refl w2.heap.size w2).alloc (Nat.le_refl _) (.cells #[.slice ad bs'.length cd, .slice ax mss.length cx] 28))).c0
        have PA := Lib.hid P1'
        clear hR hB2 P1 P1' HR1 BA BB1 BB1' HTK HDR hm b1 b2 b3 b4 b5 hdiv
        go_wp2_with fail
        obtain ⟨V, hV⟩ : ∃ V, w2.alloc (.cells #[.slice ad bs'.length cd, .slice ax mss.length cx] 28) = V := ⟨_, rfl⟩
        have BV : Below w2.heap.size w2 V := by rw [← hV]; exact (Below.refl _ _).alloc (Nat.le_refl _) _
        have Q1 := PA.out.below BV
        have Q2 : BothAt V w2.heap.size (.slice ad bs'.length cd) (.slice ax mss.length cx) := by rw [← hV]; exact BothAt.new _ _ _
        have T1 := Lib.hid (R1.out.below BV)
        have T2 := Lib.hid (R2.out.below BV)
        have TB := Lib.hid (below_trans BB2.out BV BB2.out.size)
        rw [hV]
        clear hV BV R1 R2 BB2 PA d0
        refine (of_cut t _ _ as'.length bs'.length _ _ _ _ V T1.out.cks T2.out.cks (by omega) (by omega)).mono ?_
        rintro r w3 ⟨rfl, hB3⟩
        have hw12 : w.heap.size ≤ w1.heap.size + 1 := by omega
        have FU := Lib.hid ((T1.out.below hB3).fam.union (T2.out.below hB3).fam hw12 LOW.out)
        have RC1 := Lib.hid (T1.out.below hB3).rowC
        have RC2 := Lib.hid (T2.out.below hB3).rowC
        have HE1 := Lib.hid (show ∀ j, j < as'.length → (if as'.getD j 0 < w1.heap.size + 1 then F (as'.getD j 0) else G (as'.getD j 0)) = some (ckOf F as' j) from fun j hj => by
          obtain ⟨k, hk, _⟩ := T1.out.here j hj
          rw [if_pos (LOW.out _ _ hk).1]; unfold ckOf; rw [hk]; rfl)
        have HE2 := Lib.hid (show ∀ j, j < bs'.length → (if bs'.getD j 0 < w1.heap.size + 1 then F (bs'.getD j 0) else G (bs'.getD j 0)) = some (ckOf G bs' j) from fun j hj => by
          obtain ⟨k, hk, _⟩ := T2.out.here j hj
          rw [if_neg (by have := (T2.out.fam.low _ _ hk).1; omega)]; unfold ckOf; rw [hk]; rfl)
        have Q1' := Q1.below hB3
        have Q2' := Q2.below hB3
        have P1 := Lib.hid Q1'
        have P2 := Lib.hid Q2'
        have d0 := Q1'.c0
        have d2 := Q2'.c0
        have TB' := Lib.hid (below_trans TB.out hB3 TB.out.size)
        clear hB3 Q1 Q2 Q1' Q2' T1 T2 TB LOW
        cases hok : (cutB t as'.length bs'.length (fun j => at0 (ckOf F as' j).xs t) (fun j => at0 (ckOf G bs' j).xs t)).2 with
        | false =>
          obtain ⟨c, hc⟩ : ∃ c, (cutB t as'.length bs'.length (fun j => at0 (ckOf F as' j).xs t) (fun j => at0 (ckOf G bs' j).xs t)).1 = c := ⟨_, rfl⟩
          rw [hc]
          clear hc hok
          go_wp2_with fail
          refine (settled_any _).mono ?_
          rintro r w7 ⟨rfl, hB7⟩
          go_wp2_with fail
          go_ret
          exact ⟨rfl, below_trans TB'.out hB7 TB'.out.size⟩
        | true =>
          obtain ⟨hin, hall, hheld⟩ := cutB_true hok
          have E1 := Lib.hid (cutB_of hin hall hheld)
          rw [E1.out]
          obtain ⟨c, hc⟩ : ∃ c, at0 (ckOf F as' 0).xs t = c := ⟨_, rfl⟩
          have S1 := Lib.hid (show ∀ j, j < as'.length → ∃ k, (fun b => if b < w1.heap.size + 1 then F b else G b) (as'.getD j 0) = some k ∧ at0 k.xs t = c from fun j hj => ⟨_, HE1.out j hj, (hall j hj).trans hc⟩)
          have S2 := Lib.hid (show ∀ j, j < bs'.length → ∃ k, (fun b => if b < w1.heap.size + 1 then F b else G b) (bs'.getD j 0) = some k ∧ at0 k.xs t ≤ c from fun j hj => ⟨_, HE2.out j hj, by rw [← hc]; exact hheld j hj⟩)
          have HIN := Lib.hid hin
          rw [hc]
          clear hc hok hall hheld E1 HE1 HE2 hin
          obtain ⟨H, hH⟩ : ∃ H, (fun b => if b < w1.heap.size + 1 then F b else G b) = H := ⟨_, rfl⟩
          rw [hH] at S1 S2 FU
          clear hH
          go_wp2_with (first
            | (at_builtin; refine wpList_append_ptrs rfl (.tmp 55) (.tmp 57) rfl w3.heap.size w.heap.size (.slice none 0 0) _ 0 as'.length [] as' rfl rfl ⟨rfl, .inl ⟨rfl, rfl⟩⟩ RC1.out (by omega) (Nat.le_refl _) ?_))
          intro vB w4 hown4 hg4
          have B4 := (Below.refl w3.heap.size w3).grown hg4 (Nat.le_refl _) (fun k hk => nomatch hk)
          obtain ⟨ab, cb, rfl⟩ := owns_slice hown4
          have RC2' := Lib.hid (ownsRow_keep RC2.out (keepT_below B4))
          have d4 := (P2.out.below B4).c0
          have HO4 := Lib.hid hown4
          have HB4 := Lib.hid B4
          clear hown4 hg4 B4
          go_wp2_with (first
            | (at_builtin; refine wpList_append_ptrs rfl (.tmp 59) (.tmp 61) rfl w3.heap.size (w1.heap.size + 1) _ _ as'.length bs'.length as' bs' rfl rfl HO4.out RC2'.out (by omega) HB4.out.size ?_))
          intro vB2 w5 hown5 hg5
          have B5 := HB4.out.grown hg5 HB4.out.size (fun k hk => (HO4.out.lt k hk).1)
          have hown5 : w5.ownsRow w3.heap.size 48 1 vB2 (as'.length + bs'.length) (ptrs (as' ++ bs')) := hown5
          obtain ⟨ab2, cb2, rfl⟩ := owns_slice hown5
          have RA := Lib.hid (ownsRow_keep RC1.out (keepT_below B5))
          have RB := Lib.hid (ownsRow_keep RC2.out (keepT_below B5))
          have RAB := Lib.hid hown5
          have FV := Lib.hid (FU.out.below B5)
          have PA := Lib.hid (P1.out.below B5)
          have PB := Lib.hid (P2.out.below B5)
          have TV := Lib.hid (below_trans TB'.out B5 TB'.out.size)
          clear hown5 hg5 B5 HO4 HB4 RC2' d4 d0 d2 RC1 RC2 FU P1 P2 TB'
          go_wp2_with fail
          go_loopw [65] (fun i wr => ∃ (q : Nat) (H' : Nat → Option Ck), q ≤ js.length ∧ i = .int .i64 q ∧ Fam w.heap.size wr H' ∧ ((∀ j, j < as'.length → ∃ k, H' (as'.getD j 0) = some k ∧ at0 k.xs t = c) ∧ (∀ j, j < bs'.length → ∃ k, H' (bs'.getD j 0) = some k ∧ at0 k.xs t ≤ c)) ∧ (KeepT 48 w5 wr ∧ KeepT 28 w5 wr) ∧ Below w.heap.size w wr) (fun i _ => js.length - (intOf i).toNat)
          case atStart => exact ⟨0, H, by omega, rfl, FV.out, ⟨S1.out, S2.out⟩, ⟨KeepT.refl _ _, KeepT.refl _ _⟩, TV.out⟩
          case round =>
            obtain ⟨q, H', hq, rfl, hfam, hst, hkp, hB⟩ := hrel
            have HF := Lib.hid hfam
            have HS := Lib.hid hst
            have HK := Lib.hid hkp
            have HB := Lib.hid hB
            have p0 : wr.cell? ⟨w1.heap.size, 0, none⟩ = some (.slice ac as'.length cc) := by simp only [World.cell?, (hkp.2 _ _ _ PA.out).trans PA.out]; rfl
            have p2 : wr.cell? ⟨w2.heap.size, 0, none⟩ = some (.slice ad bs'.length cd) := by simp only [World.cell?, (hkp.2 _ _ _ PB.out).trans PB.out]; rfl
            clear hfam hst hkp
            by_cases hlt : q < js.length
            · have hlt' : (q : Int) < js.length := by omega
              obtain ⟨_, _, e, hjc⟩ := HJ.out
              cases e
              obtain ⟨jb, jz, rfl, hjd⟩ := hjc (by omega)
              obtain ⟨c0, c1⟩ := hjd q hlt
              obtain ⟨⟨I, K⟩, hIK⟩ : ∃ p, js.getD q (0, 0) = p := ⟨_, rfl⟩
              rw [hIK] at c0 c1
              have c0' : wr.cell? ⟨jb, jz + q * 2, none⟩ = some (.int .i64 I) := by rw [hB.cell (p := ⟨jb, jz + q * 2, none⟩) (block_lt_of_cell c0)]; exact c0
              have c1' : wr.cell? ⟨jb, jz + q * 2 + 1, none⟩ = some (.int .i64 K) := by rw [hB.cell (p := ⟨jb, jz + q * 2 + 1, none⟩) (block_lt_of_cell c1)]; exact c1
              clear hjc hjd c0 c1 hIK hB
              obtain ⟨W, hW⟩ : ∃ W, wr.alloc (.cells #[.int .i64 I, .int .i64 K] 47) = W := ⟨_, rfl⟩
              have BW : Below wr.heap.size wr W := by rw [← hW]; exact (Below.refl _ _).alloc (Nat.le_refl _) _
              have p0' : W.cell? ⟨w1.heap.size, 0, none⟩ = some (.slice ac as'.length cc) := by rw [BW.cell (p := ⟨w1.heap.size, 0, none⟩) (block_lt_of_cell p0)]; exact p0
              have jb0 : W.heap[wr.heap.size]? = some (Obj.cells #[.int .i64 I, .int .i64 K] 47 (0, 0)) := by rw [← hW]; exact heap_alloc_new _ _
              have j0 : W.cell? ⟨wr.heap.size, 0, none⟩ = some (.int .i64 I) := by simp only [World.cell?, jb0]; rfl
              have j1 : W.cell? ⟨wr.heap.size, 1, none⟩ = some (.int .i64 K) := by simp only [World.cell?, jb0]; rfl
              have HW := Lib.hid hW
              have HFW := Lib.hid (HF.out.below BW)
              have HKW := Lib.hid (show KeepT 48 w5 W ∧ KeepT 28 w5 W from ⟨HK.out.1.trans (keepT_below BW), HK.out.2.trans (keepT_below BW)⟩)
              have HBW := Lib.hid (below_trans HB.out BW HB.out.size)
              have NX := Lib.hid (show Fam w.heap.size W H' ∧ ((∀ j, j < as'.length → ∃ k, H' (as'.getD j 0) = some k ∧ at0 k.xs t = c) ∧ (∀ j, j < bs'.length → ∃ k, H' (bs'.getD j 0) = some k ∧ at0 k.xs t ≤ c)) ∧ (KeepT 48 w5 W ∧ KeepT 28 w5 W) ∧ Below w.heap.size w W from ⟨HFW.out, HS.out, HKW.out, HBW.out⟩)
              have JB := Lib.hid jb0
              clear BW jb0 p0 p2
              by_cases i0 : I < 0
              · have e0 : decide (I < 0) = true := decide_eq_true i0
                go_wp2_with fail
                try rw [HW.out]
                exact ⟨⟨q + 1, H', by omega, by go_num, NX.out⟩, by simp [intOf] <;> omega⟩
              have e0 : decide (I < 0) = false := decide_eq_false i0
              by_cases i1 : (as'.length : Int) ≤ I
              · have e1 : decide ((as'.length : Int) ≤ I) = true := decide_eq_true i1
                go_wp2_with fail
                try rw [HW.out]
                exact ⟨⟨q + 1, H', by omega, by go_num, NX.out⟩, by simp [intOf] <;> omega⟩
              have e1 : decide ((as'.length : Int) ≤ I) = false := decide_eq_false i1
              by_cases i2 : K < 0
              · have e2 : decide (K < 0) = true := decide_eq_true i2
                go_wp2_with fail
                try rw [HW.out]
                exact ⟨⟨q + 1, H', by omega, by go_num, NX.out⟩, by simp [intOf] <;> omega⟩
              have e2 : decide (K < 0) = false := decide_eq_false i2
              by_cases i3 : (as'.length : Int) + (bs'.length : Int) ≤ K
              · have e3 : decide ((as'.length : Int) + (bs'.length : Int) ≤ K) = true := decide_eq_true i3
                go_wp2_with fail
                try rw [HW.out]
                exact ⟨⟨q + 1, H', by omega, by go_num, NX.out⟩, by simp [intOf] <;> omega⟩
              have e3 : decide ((as'.length : Int) + (bs'.length : Int) ≤ K) = false := decide_eq_false i3
              obtain ⟨i, rfl⟩ := Int.eq_ofNat_of_zero_le (show 0 ≤ I by omega)
              obtain ⟨k, rfl⟩ := Int.eq_ofNat_of_zero_le (show 0 ≤ K by omega)
              have hi : i < as'.length := by omega
              have hk : k < (as' ++ bs').length := by rw [List.length_append]; omega
              obtain ⟨ga, cura, hac, hga, q0⟩ := row_at (ownsRow_keep RA.out HKW.out.1) i hi
              obtain ⟨gb, curb, hab, hgb, q1⟩ := row_at (bs := as' ++ bs') (by have := ownsRow_keep RAB.out HKW.out.1; rw [← List.length_append] at this; exact this) k hk
              subst hac hab
              obtain ⟨ka, hka, hta⟩ := HS.out.1 i hi
              obtain ⟨kb, hkb, htb⟩ : ∃ kb, H' ((as' ++ bs').getD k 0) = some kb ∧ at0 kb.xs t ≤ c := by
                by_cases hka : k < as'.length
                · obtain ⟨kb, h1, h2⟩ := HS.out.1 k hka
                  exact ⟨kb, by rw [show (as' ++ bs').getD k 0 = as'.getD k 0 by simp [List.getD, List.getElem?_append_left hka]]; exact h1, by omega⟩
                · obtain ⟨kb, h1, h2⟩ := HS.out.2 (k - as'.length) (by rw [List.length_append] at hk; omega)
                  exact ⟨kb, by rw [show (as' ++ bs').getD k 0 = bs'.getD (k - as'.length) 0 by simp [List.getD, List.getElem?_append_right (show as'.length ≤ k by omega)]]; exact h1, h2⟩
              obtain ⟨ba, hba⟩ : ∃ ba, as'.getD i 0 = ba := ⟨_, rfl⟩
              obtain ⟨bb, hbb⟩ : ∃ bb, (as' ++ bs').getD k 0 = bb := ⟨_, rfl⟩
              rw [hba] at q0 hka
              rw [hbb] at q1 hkb
              have l1 : (i : Int) < (as'.length : Int) := by omega
              have l2 : (k : Int) < (as'.length : Int) + (bs'.length : Int) := by omega
              have PAW := Lib.hid ((HKW.out.2 _ _ _ PA.out).trans PA.out)
              have HGA := Lib.hid hga
              have HGB := Lib.hid hgb
              have FD := Lib.hid (HFW.out.below (Below.refl W.heap.size W).drew)
              have HKA := Lib.hid hka
              have HKB := Lib.hid hkb
              have TA := Lib.hid hta
              have TBB := Lib.hid htb
              clear hga hgb hka hkb hta htb hba hbb i0 i1 i2 i3
              go_wp2_with fail
              try rw [HW.out]
              go_region_held3 (fun w' => w'.cell? ⟨w1.heap.size, 0, none⟩ = some (.slice (some ⟨ga, 0, none⟩) as'.length cc) ∧ w'.cell? ⟨wr.heap.size, 0, none⟩ = some (.int .i64 i) ∧ w'.cell? ⟨wr.heap.size, 1, none⟩ = some (.int .i64 k) ∧ w'.cell? ⟨ga, i, none⟩ = some (.pointer (some ⟨ba, 0, none⟩)) ∧ w'.cell? ⟨gb, k, none⟩ = some (.pointer (some ⟨bb, 0, none⟩)))
                (first | (simp [*]; done) | (refine ⟨?_, ?_, ?_, ?_, ?_⟩ <;> first | assumption | (simp [*]; done)))
                (first | (go_at_call 15; refine (fam_join FD.out ba bb ka kb HKA.out HKB.out).mono ?_; rintro r w8 ⟨x8, H8, k8, rfl, fam8, hk8, mx8, ot8, kp8, bl8⟩; have s0 := ((kp8 _ (by decide) (by decide)).cell PAW.out 0).trans p0'; have s1 := ((kp8 _ (by decide) (by decide)).cell JB.out 0).trans j0; have s2 := ((kp8 _ (by decide) (by decide)).cell JB.out 1).trans j1; have s3 := ((kp8 _ (by decide) (by decide)).cell HGA.out i).trans q0; have s4 := ((kp8 _ (by decide) (by decide)).cell HGB.out k).trans q1))
              have KP8 := Lib.hid (show KeepT 48 w5 w8 ∧ KeepT 28 w5 w8 from ⟨(HKW.out.1.trans (fun _ _ _ _ => rfl)).trans (kp8 _ (by decide) (by decide)), (HKW.out.2.trans (fun _ _ _ _ => rfl)).trans (kp8 _ (by decide) (by decide))⟩)
              have FAM8 := Lib.hid fam8
              have BL8 := Lib.hid (bl8 w (Nat.le_refl _) HBW.out.drew)
              have ST8 := Lib.hid (show (∀ j, j < as'.length → ∃ k, H8 (as'.getD j 0) = some k ∧ at0 k.xs t = c) ∧ (∀ j, j < bs'.length → ∃ k, H8 (bs'.getD j 0) = some k ∧ at0 k.xs t ≤ c) from by
                have hc8 : at0 k8.xs t = c := by have := mx8 t; have := TA.out; have := TBB.out; omega
                refine ⟨fun j hj => ?_, fun j hj => ?_⟩
                · by_cases e : as'.getD j 0 = ba
                  · rw [e]; exact ⟨k8, hk8, hc8⟩
                  · rw [ot8 _ e]; exact HS.out.1 j hj
                · by_cases e : bs'.getD j 0 = ba
                  · rw [e]; exact ⟨k8, hk8, by omega⟩
                  · rw [ot8 _ e]; exact HS.out.2 j hj)
              have RA8 := Lib.hid (ownsRow_keep RA.out KP8.out.1)
              clear fam8 hk8 mx8 ot8 kp8 bl8 FD HKA HKB TA TBB PAW HGA HGB JB NX HKW HBW HFW q0 q1 j0 j1 p0' HW e0 e1 e2 e3 hi hk l1 l2
              go_wp2_with fail
              go_loopw [107] (fun i w9 => ∃ (j : Nat), j ≤ as'.length ∧ i = .int .i64 j ∧ w9 = w8) (fun i _ => as'.length - (intOf i).toNat)
              case atStart => exact ⟨0, by omega, rfl, rfl⟩
              case round =>
                obtain ⟨j, hj, rfl, hw9⟩ := hrel
                have hw9' := hw9.symm
                clear hw9
                subst hw9'
                by_cases hjl : j < as'.length
                · have hjl' : (j : Int) < (as'.length : Int) := by omega
                  obtain ⟨gg, cur, e, _, c9⟩ := row_at RA8.out j hjl
                  cases e
                  obtain ⟨kj, hkj, htj⟩ := ST8.out.1 j hjl
                  have HKJ := Lib.hid (FAM8.out.here _ _ hkj)
                  obtain ⟨bj, hbj⟩ : ∃ bj, as'.getD j 0 = bj := ⟨_, rfl⟩
                  rw [hbj] at c9 HKJ
                  have HTJ := Lib.hid htj
                  clear hkj htj hbj
                  go_wp2_with fail
                  refine (get_any bj kj t _ HKJ.out).mono ?_
                  rintro r w10 ⟨rfl, rfl⟩
                  rw [HTJ.out]
                  go_wp2_with fail
                  go_roundw
                  case rel => exact ⟨j + 1, by omega, by go_num, by trivial⟩
                  case measure => simp [intOf] <;> omega
                · have hge : (as'.length : Int) ≤ j := by omega
                  go_wp2_with fail
                  go_roundw
                  case rel => exact ⟨q + 1, H8, by omega, by go_num, FAM8.out, ST8.out, KP8.out, BL8.out⟩
                  case measure => simp [intOf] <;> omega
            · have hge : (js.length : Int) ≤ q := by omega
              have XA := cks_row HF.out (ownsRow_keep RA.out HK.out.1) (fun j hj => by obtain ⟨k, h1, _⟩ := HS.out.1 j hj; exact ⟨k, h1⟩)
              have XB := cks_row HF.out (ownsRow_keep RB.out HK.out.1) (fun j hj => by obtain ⟨k, h1, _⟩ := HS.out.2 j hj; exact ⟨k, h1⟩)
              have fa : ∀ j, j < as'.length → at0 (ckOf H' as' j).xs t = c := fun j hj => by
                obtain ⟨k, h1, h2⟩ := HS.out.1 j hj
                unfold ckOf; rw [h1]; exact h2
              have fb : ∀ j, j < bs'.length → at0 (ckOf H' bs' j).xs t ≤ c := fun j hj => by
                obtain ⟨k, h1, h2⟩ := HS.out.2 j hj
                unfold ckOf; rw [h1]; exact h2
              have E2 := Lib.hid (show cutB t as'.length bs'.length (fun j => at0 (ckOf H' as' j).xs t) (fun j => at0 (ckOf H' bs' j).xs t) = (c, true) by
                have h0 := fa 0 HIN.out.2
                rw [cutB_of HIN.out (fun j hj => (fa j hj).trans h0.symm) (fun j hj => by have := fb j hj; show _ ≤ at0 (ckOf H' as' 0).xs t; omega)]
                show (at0 (ckOf H' as' 0).xs t, true) = _
                rw [h0])
              clear hlt fa fb hB
              go_wp2_with fail
              refine (of_cut t _ _ as'.length bs'.length _ _ _ _ wr XA XB (by omega) (by omega)).mono ?_
              rintro r w8 ⟨rfl, hB8⟩
              rw [E2.out]
              have B8 := Lib.hid (below_trans HB.out hB8 HB.out.size)
              clear hB8 XA XB
              go_wp2_with fail
              refine (settled_any _).mono ?_
              rintro r w9 ⟨rfl, hB9⟩
              go_wp2_with fail
              go_ret
              exact ⟨rfl, below_trans B8.out hB9 B8.out.size⟩

end Go.Proofs.Ytcfkokjfhjdbfaa

